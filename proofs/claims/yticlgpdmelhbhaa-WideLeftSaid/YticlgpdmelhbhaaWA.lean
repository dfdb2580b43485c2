/- Package wide: differences, opposites. -/
import Derived.Test.YticlgpdmelhbhaaW9
namespace Go.X
open Go.Proofs
attribute [simp] Try.T_53
attribute [local irreducible] Good

noncomputable def subS : List AV → PR
  | [.arr .u64 8 f, .arr .u64 8 g] => if R8 f ∧ R8 g then .val (fitV (sval f - sval g)) else .fail
  | _ => .fail
@[simp] theorem subS_val {f : Nat → Int} {g : Nat → Int} (h : R8 f ∧ R8 g) : subS [.arr .u64 8 f, .arr .u64 8 g] = .val (fitV (sval f - sval g)) := if_pos h
set_option maxHeartbeats 1000000 in
theorem sub_ok : SumOk Try.prog 33 (pureS subS) := by
  refine sum_fn (L := fun i => if i = 1 then some (.quiet 7) else none) (n := 1) (S := stOf [(46, pureS negS), (54, pureS plusS), (55, pureS notS)]) drawS Try.T_ok (stOf_ok (by simp [negative_ok, plus_ok, not_ok])) Try.func33 rfl (by kernel_rfl) (by kernel_rfl) ?_
    (by intro args v h; unfold subS at h; split at h <;> (try split at h) <;> simp at h)
  intro args v h
  unfold subS at h
  split at h
  · rename_i f g
    split at h
    · rename_i hc
      obtain ⟨hf, hg⟩ := hc
      cases h
      refine ⟨by simp, by simp [fitV], by simp [fitV], ?_⟩
      have hn := R8_not hg
      have hs := R8_plus f (notF g) 1
      have e := plus_sval hf hn (by decide : (0 : Int) ≤ 1) (by decide)
      rw [not_sval hg] at e
      have rf := sval_range hf; have rg := sval_range hg; have rs := sval_range hs
      have hK := K5_pos
      by_cases h1 : sval f < 0 <;> by_cases h2 : sval g < 0 <;> by_cases h3 : sval (plusF f (notF g) 1) < 0 <;>
        simp [Try.f33, hf, hg, hs, hn, neg_sval hf, neg_sval hg, neg_sval hs, h1, h2, h3, fitV] <;>
        first
          | (have hi : InW (sval f - sval g) := by unfold InW; omega
             simp only [hi, if_true, decide_true]
             exact eqv_tup2 (eqvW_of hs (by omega)) (Eqv.refl _))
          | (have hi : ¬ InW (sval f - sval g) := by unfold InW; omega
             simp only [hi, if_false, decide_false]
             exact eqv_tup2 eqvW_zero (Eqv.refl _))
    · simp at h
  · simp at h

noncomputable def negateS : List AV → PR
  | [.arr .u64 8 f] => if R8 f then .val (fitV (- sval f)) else .fail
  | _ => .fail
@[simp] theorem negateS_val {f : Nat → Int} (h : R8 f) : negateS [.arr .u64 8 f] = .val (fitV (- sval f)) := if_pos h
theorem negate_ok : SumOk Try.prog 34 (pureS negateS) := by
  refine sum_fn (L := fun _ => none) (n := 1) (S := stOf [(33, pureS subS)]) drawS Try.T_ok (stOf_ok (by simp [sub_ok])) Try.func34 rfl (by kernel_rfl) (by kernel_rfl) ?_
    (by intro args v h; unfold negateS at h; split at h <;> (try split at h) <;> simp at h)
  intro args v h
  unfold negateS at h
  split at h
  · rename_i f
    split at h
    · rename_i hf
      cases h
      refine ⟨by simp, by simp [fitV], by simp [fitV], ?_⟩
      simp [Try.f34, hf, R8_zero, sval_zero, fitV]
      exact Eqv.refl _
    · simp at h
  · simp at h

/-- a number of a size, if it fits -/
noncomputable def signedS : List AV → PR
  | [.arr .u64 8 f, .bool b] => if R8 f then (if InW (if b = true then - uval f else uval f) then .val (W (if b = true then - uval f else uval f)) else .pan (.iface 53 (.agg []))) else .fail
  | _ => .fail
theorem signedS_eq {f : Nat → Int} {b : Bool} (h : R8 f) : signedS [.arr .u64 8 f, .bool b] = if InW (if b = true then - uval f else uval f) then .val (W (if b = true then - uval f else uval f)) else .pan (.iface 53 (.agg [])) := if_pos h

theorem signed_case {f : Nat → Int} (h : R8 f) {b : Bool} : ∀ g, g = (if b = true then minusF f else f) →
    (R8 g ∧ (InW (if b = true then - uval f else uval f) ↔ ¬ (sval g ≠ 0 ∧ (decide (sval g < 0) ≠ b))) ∧ (InW (if b = true then - uval f else uval f) → sval g = (if b = true then - uval f else uval f))) := by
  rintro g rfl
  have hu := uval_sval h
  have hm := minus_sval h
  have r := sval_range h
  have hK := K5_pos
  unfold InW
  cases b
  · simp only [Bool.false_eq_true, if_false]
    refine ⟨h, ?_, ?_⟩ <;> (split at hu) <;> simp <;> omega
  · simp only [if_true]
    rw [hm]
    refine ⟨R8_minus f, ?_, ?_⟩ <;> (split at hu) <;> (split) <;> simp <;> omega

theorem signed_ok : SumOk Try.prog 45 (pureS signedS) := by
  have key : ∀ (f : Nat → Int) (b : Bool), R8 f → Good (exec Try.T (stOf [(46, pureS negS), (63, pureS minusS)]) (fun _ => none) 1 (Try.f45.body.getD .skip) (initS [.arr .u64 8 f, .bool b] Try.f45.ntmps []))
      (Ends Try.T Try.f45.results.toList (fun u _ => InW (if b = true then - uval f else uval f) ∧ Eqv u (W (if b = true then - uval f else uval f))) fun u _ => ¬ InW (if b = true then - uval f else uval f) ∧ u = .iface 53 (.agg [])) := by
    intro f b hf
    obtain ⟨hg, h1, h2⟩ := signed_case hf (b := b) _ rfl
    cases b
    · simp only [Bool.false_eq_true, if_false] at hg h1 h2
      by_cases hz : sval f = 0
      · have hi : InW (uval f) := h1.2 (by simp [hz])
        simp [Try.f45, eqArr_iff hf R8_zero, sval_zero, hz, hi]
        exact eqvW_of hf (h2 hi)
      · by_cases hn : sval f < 0
        · have hi : ¬ InW (uval f) := fun e => h1.1 e (by simp [hz, hn])
          simp [Try.f45, hf, eqArr_iff hf R8_zero, sval_zero, hz, neg_sval hf, hn, hi]
        · have hi : InW (uval f) := h1.2 (by simp [hn])
          simp [Try.f45, hf, eqArr_iff hf R8_zero, sval_zero, hz, neg_sval hf, hn, hi]
          exact eqvW_of hf (h2 hi)
    · simp only [if_true] at hg h1 h2
      by_cases hz : sval (minusF f) = 0
      · have hi : InW (- uval f) := h1.2 (by simp [hz])
        simp [Try.f45, hf, eqArr_iff hg R8_zero, sval_zero, hz, hi]
        exact eqvW_of hg (h2 hi)
      · by_cases hn : sval (minusF f) < 0
        · have hi : InW (- uval f) := h1.2 (by simp [hn])
          simp [Try.f45, hf, hg, eqArr_iff hg R8_zero, sval_zero, hz, neg_sval hg, hn, hi]
          exact eqvW_of hg (h2 hi)
        · have hi : ¬ InW (- uval f) := fun e => h1.1 e (by simp [hz, hn])
          simp [Try.f45, hf, hg, eqArr_iff hg R8_zero, sval_zero, hz, neg_sval hg, hn, hi]
  refine sum_fn (L := fun _ => none) (n := 1) (S := stOf [(46, pureS negS), (63, pureS minusS)]) drawS Try.T_ok (stOf_ok (by simp [negative_ok, minus_ok])) Try.func45 rfl (by kernel_rfl) (by kernel_rfl) ?_ ?_
  · intro args v h
    unfold signedS at h
    split at h
    · rename_i f b
      by_cases hf : R8 f
      · rw [if_pos hf] at h
        by_cases hi : InW (if b = true then - uval f else uval f)
        · rw [if_pos hi] at h
          injection h with h
          subst h
          refine ⟨by simp, by simp, by simp, (key f b hf).mono ?_⟩
          intro x s hx
          cases x <;> simp only [Ends_norm, Ends_ret, Ends_pan, Ends_exit, hi, true_and, not_true, false_and, and_false] at hx ⊢ <;> exact hx
        · rw [if_neg hi] at h; simp at h
      · rw [if_neg hf] at h; simp at h
    · simp at h
  · intro args v h
    unfold signedS at h
    split at h
    · rename_i f b
      by_cases hf : R8 f
      · rw [if_pos hf] at h
        by_cases hi : InW (if b = true then - uval f else uval f)
        · rw [if_pos hi] at h; simp at h
        · rw [if_neg hi] at h
          injection h with h
          subst h
          refine ⟨by simp, by simp, by simp, (key f b hf).mono ?_⟩
          intro x s hx
          cases x with
          | pan v => exact ⟨hx.1, hx.2.2 ▸ Eqv.refl _⟩
          | norm => obtain ⟨_, _, _, h1, _⟩ := hx; exact (hi h1).elim
          | ret => obtain ⟨_, _, _, h1, _⟩ := hx; exact (hi h1).elim
          | exit i => exact hx
      · rw [if_neg hf] at h; simp at h
    · simp at h

end Go.X
