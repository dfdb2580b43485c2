/- Package wide: quotients. -/
import Derived.Test.YtpojeehijepmhaaGreatGC

section
namespace Go.X
open Go.Proofs
attribute [simp] Tryz.T_20
attribute [local irreducible] Good
set_option maxRecDepth 100000
theorem quoV_fit {a b q r : Int} (hb : b ≠ 0) (h1 : quoI a b = q) (h2 : remI a b = r) (hi : InW q) : quoV a b = .tup [W q, W r, .bool true] := by
  subst h1; subst h2; exact if_pos ⟨hb, hi⟩
theorem quoV_not {a b q : Int} (h1 : quoI a b = q) (hi : ¬ InW q) : quoV a b = .tup [W 0, W 0, .bool false] := by
  subst h1; exact if_neg fun h => hi h.2
theorem sgnI_zero {z : Int} : sgnI z = 0 ↔ z = 0 := by unfold sgnI; (repeat' split) <;> omega
set_option maxHeartbeats 4000000 in
theorem div_ok : SumOk Tryz.prog 37 (pureS divS) := by
  refine sum_df (L := divL) (n := 1) (S := (stOf [(70, pureS signS), (73, pureS sizeS), (72, pureS partsS), (74, pureS negS), (75, pureS plusS), (76, pureS notS), (77, pureS signedS)])) drawS Tryz.T_ok (stOf_ok (by simp [sign_ok, size_ok, parts_ok, negative_ok, plus_ok, not_ok, signed_ok])) Tryz.func37 rfl (by kernel_rfl) div_draws
    Tryz.func71 (by kernel_rfl) rfl rfl (by kernel_rfl) ?_
    (by intro args v h; unfold divS at h; split at h <;> (try split at h) <;> simp at h)
  intro args v h
  unfold divS at h
  split at h
  · rename_i f g
    split at h
    · rename_i hc
      obtain ⟨hf, hg⟩ := hc
      cases h
      refine ⟨by simp, by unfold quoV; split <;> simp, by unfold quoV; split <;> simp, ?_⟩
      by_cases hz : sval g = 0
      · have hs : sgnI (sval g) = 0 := sgnI_zero.2 hz
        have hs0 : sgnI 0 = 0 := by decide
        simp [Tryz.f37, hg, hs0, EndsD, quoV, hz]
        exact eqv_tup3 eqvW_zero eqvW_zero (Eqv.refl _)
      · have hs : ¬ sgnI (sval g) = 0 := fun e => hz (sgnI_zero.1 e)
        have sf := R8_size hf; have sg := R8_size hg
        have hK : 2 ≤ K5 := by unfold K5; omega
        have ef := size_val hf; have eg := size_val hg
        have rf := sval_range hf; have rg := sval_range hg
        have uf := uval_bound sf; have ug := uval_bound sg
        obtain ⟨q, hq⟩ : ∃ q, q = uval (sizeF f) / uval (sizeF g) := ⟨_, rfl⟩
        obtain ⟨r, hr⟩ : ∃ r, r = uval (sizeF f) % uval (sizeF g) := ⟨_, rfl⟩
        obtain ⟨q0, q1, r0, r1, key⟩ := quoI_parts ef eg hz hq hr
        have hB : uval (sizeF g) ≤ K5 := by
          rw [eg]; by_cases h : sval g < 0
          · rw [if_pos h]; omega
          · rw [if_neg h]; omega
        have hA : uval (sizeF f) ≤ K5 := by
          rw [ef]; by_cases h : sval f < 0
          · rw [if_pos h]; omega
          · rw [if_neg h]; omega
        have hp : 0 < uval (sizeF g) := by rw [eg]; split <;> omega
        have eq1 : uval (limb q) = q := by rw [uval_limb, Int.emod_eq_of_lt q0 (by omega)]
        have er1 : uval (limb r) = r := by rw [uval_limb, Int.emod_eq_of_lt r0 (by omega)]
        have ez := eqArr_limb r0 (by omega)
        obtain ⟨p1, p2⟩ := plus_uval (f := limb q) (g := fun _ => 0) (c := 1)
        rw [eq1, zero_val, Int.emod_eq_of_lt (by omega) (by omega)] at p2
        obtain ⟨p3, p4⟩ := plus_uval (f := sizeF g) (g := notF (limb r)) (c := 1)
        rw [not_val, er1, show uval (sizeF g) + (2 * K5 - 1 - r) + 1 = (uval (sizeF g) - r) + 2 * K5 from by omega, Int.add_emod_right, Int.emod_eq_of_lt (by omega) (by omega)] at p4
        by_cases h1 : sval f < 0 <;> by_cases h2 : sval g < 0
        · rw [if_pos (by omega), if_pos h2] at key
          obtain ⟨k1, k2⟩ := key
          have iy : InW (-r) := by unfold InW; omega
          by_cases hi : InW q
          · simp [Tryz.f37, hf, hg, sf, sg, hs, hp, ← hq, ← hr, EndsD, divL, divO, clo, neg_sval hf, neg_sval hg, h1, h2, signedS_eq, R8_limb, eq1, er1, hi, iy]
            rw [quoV_fit hz k1 k2 hi]
            exact Eqv.refl _
          · simp [Tryz.f37, hf, hg, sf, sg, hs, hp, ← hq, ← hr, EndsD, divL, divO, clo, neg_sval hf, neg_sval hg, h1, h2, signedS_eq, R8_limb, eq1, hi]
            rw [quoV_not k1 hi]
            exact eqv_tup3 eqvW_zero eqvW_zero (Eqv.refl _)
        · rw [if_neg (by omega)] at key
          by_cases hz0 : r = 0
          · rw [if_pos hz0] at key
            obtain ⟨k1, k2⟩ := key
            have iy : InW 0 := by unfold InW; omega
            subst hz0
            by_cases hi : InW (-q)
            · simp [Tryz.f37, hf, hg, sf, sg, hs, hp, ← hq, ← hr, EndsD, divL, divO, clo, neg_sval hf, neg_sval hg, h1, h2, ez, signedS_eq, R8_limb, eq1, er1, hi, iy]
              rw [quoV_fit hz k1 k2 hi]
              exact Eqv.refl _
            · simp [Tryz.f37, hf, hg, sf, sg, hs, hp, ← hq, ← hr, EndsD, divL, divO, clo, neg_sval hf, neg_sval hg, h1, h2, ez, signedS_eq, R8_limb, eq1, hi]
              rw [quoV_not k1 hi]
              exact eqv_tup3 eqvW_zero eqvW_zero (Eqv.refl _)
          · rw [if_neg hz0, if_neg h2] at key
            obtain ⟨k1, k2⟩ := key
            have iy : InW (uval (sizeF g) - r) := by unfold InW; omega
            rw [Int.add_zero] at p2
            by_cases hi : InW (-(q + 1))
            · simp [Tryz.f37, hf, hg, sf, sg, hs, hp, ← hq, ← hr, EndsD, divL, divO, clo, neg_sval hf, neg_sval hg, h1, h2, ez, signedS_eq, R8_limb, R8_zero, R8_not (R8_limb _), p1, p2, p3, p4, hi, iy, hz0]
              rw [quoV_fit hz k1 k2 hi]
              exact Eqv.refl _
            · simp [Tryz.f37, hf, hg, sf, sg, hs, hp, ← hq, ← hr, EndsD, divL, divO, clo, neg_sval hf, neg_sval hg, h1, h2, ez, signedS_eq, R8_limb, R8_zero, R8_not (R8_limb _), p1, p2, hi, hz0]
              rw [quoV_not k1 hi]
              exact eqv_tup3 eqvW_zero eqvW_zero (Eqv.refl _)
        · rw [if_neg (by omega)] at key
          by_cases hz0 : r = 0
          · rw [if_pos hz0] at key
            obtain ⟨k1, k2⟩ := key
            have iy : InW 0 := by unfold InW; omega
            subst hz0
            by_cases hi : InW (-q)
            · simp [Tryz.f37, hf, hg, sf, sg, hs, hp, ← hq, ← hr, EndsD, divL, divO, clo, neg_sval hf, neg_sval hg, h1, h2, ez, signedS_eq, R8_limb, eq1, er1, hi, iy]
              rw [quoV_fit hz k1 k2 hi]
              exact Eqv.refl _
            · simp [Tryz.f37, hf, hg, sf, sg, hs, hp, ← hq, ← hr, EndsD, divL, divO, clo, neg_sval hf, neg_sval hg, h1, h2, ez, signedS_eq, R8_limb, eq1, hi]
              rw [quoV_not k1 hi]
              exact eqv_tup3 eqvW_zero eqvW_zero (Eqv.refl _)
          · rw [if_neg hz0, if_pos h2] at key
            obtain ⟨k1, k2⟩ := key
            have iy : InW (-(uval (sizeF g) - r)) := by unfold InW; omega
            rw [Int.add_zero] at p2
            by_cases hi : InW (-(q + 1))
            · simp [Tryz.f37, hf, hg, sf, sg, hs, hp, ← hq, ← hr, EndsD, divL, divO, clo, neg_sval hf, neg_sval hg, h1, h2, ez, signedS_eq, R8_limb, R8_zero, R8_not (R8_limb _), p1, p2, p3, p4, hi, iy, hz0]
              rw [quoV_fit hz k1 k2 hi]
              exact Eqv.refl _
            · simp [Tryz.f37, hf, hg, sf, sg, hs, hp, ← hq, ← hr, EndsD, divL, divO, clo, neg_sval hf, neg_sval hg, h1, h2, ez, signedS_eq, R8_limb, R8_zero, R8_not (R8_limb _), p1, p2, hi, hz0]
              rw [quoV_not k1 hi]
              exact eqv_tup3 eqvW_zero eqvW_zero (Eqv.refl _)
        · rw [if_pos (by omega), if_neg h2] at key
          obtain ⟨k1, k2⟩ := key
          have iy : InW (r) := by unfold InW; omega
          by_cases hi : InW q
          · simp [Tryz.f37, hf, hg, sf, sg, hs, hp, ← hq, ← hr, EndsD, divL, divO, clo, neg_sval hf, neg_sval hg, h1, h2, signedS_eq, R8_limb, eq1, er1, hi, iy]
            rw [quoV_fit hz k1 k2 hi]
            exact Eqv.refl _
          · simp [Tryz.f37, hf, hg, sf, sg, hs, hp, ← hq, ← hr, EndsD, divL, divO, clo, neg_sval hf, neg_sval hg, h1, h2, signedS_eq, R8_limb, eq1, hi]
            rw [quoV_not k1 hi]
            exact eqv_tup3 eqvW_zero eqvW_zero (Eqv.refl _)
    · simp at h
  · simp at h
end Go.X
end
