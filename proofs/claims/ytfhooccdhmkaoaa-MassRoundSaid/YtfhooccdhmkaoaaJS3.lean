/- Masses and moments; shapes without a list. -/
import Derived.Test.YtfhooccdhmkaoaaJS2
import Derived.Test.YtfhooccdhmkaoaaJT1
namespace Go.X
open Go.Proofs
attribute [local irreducible] Good
attribute [simp] Try.T_68
attribute [simp] Try.T_141

/-- a moment -/
def momI (m a b : Int) : Int := clampI (quoI (m * (a * a + b * b)) 3 / 18446744073709551616)
theorem momI_is {m a b : Int} : clampI (quoI (m * (a * a + b * b)) 3 / 18446744073709551616) = momI m a b := rfl
theorem momI_other {m a b : Int} : clampI (quoI (m * (a * a + b * b)) 55340232221128654848) = momI m a b := by
  have e1 : quoI (m * (a * a + b * b)) 55340232221128654848 = m * (a * a + b * b) / 55340232221128654848 := by unfold quoI; rw [if_pos (by decide)]
  have e2 : quoI (m * (a * a + b * b)) 3 = m * (a * a + b * b) / 3 := by unfold quoI; rw [if_pos (by decide)]
  unfold momI
  rw [e1, e2, Int.ediv_ediv_of_nonneg (by decide)]
  rfl
theorem momI_in {m a b : Int} : InI (momI m a b) := InI_clamp _
/-- 1 by a number above 0 -/
def backI (a : Int) : Int := if 0 < a then clampI (quoI 18446744073709551616 a) else 0
theorem backI_in {a : Int} : InI (backI a) := by unfold backI; split; exact InI_clamp _; exact InI_zero
theorem backI_pos {a : Int} (h : 0 < a) : clampI (quoI 18446744073709551616 a) = backI a := by unfold backI; rw [if_pos h]
theorem backI_not {a : Int} (h : ¬ 0 < a) : backI a = 0 := by unfold backI; rw [if_neg h]
theorem W_K3 {m a b : Int} (hm : InI m) (ha : InI a) (hb : InI b) : Bd 190 (m * (a * a + b * b)) :=
  (Bd.of hm).mul (((Bd.of ha).mul (Bd.of ha)).add ((Bd.of hb).mul (Bd.of hb)))
theorem InW_3 : InW 3 := InI.w (by decide)
theorem InI_3 : InI 3 := by decide

noncomputable def mstimesS : List AV → PR
  | [.arr .u64 8 f, .arr .u64 8 g] => open Classical in if R8 f ∧ R8 g ∧ InW (sval f * sval g) then .val (W (sval f * sval g)) else .fail
  | _ => .fail
@[simp] theorem mstimesS_val {f g : Nat → Int} (h : R8 f ∧ R8 g ∧ InW (sval f * sval g)) : mstimesS [.arr .u64 8 f, .arr .u64 8 g] = .val (W (sval f * sval g)) := if_pos h
theorem mstimes_ok : SumOk Try.prog 96 (pureS mstimesS) := by
  refine sum_fn (L := fun _ => none) (n := 1) (S := stOf [(115, pureS mulS)]) drawS Try.T_ok (stOf_ok (by simp [mul_ok])) Try.func96 rfl (by kernel_rfl) (by kernel_rfl) ?_
    (by intro args v h; unfold mstimesS at h; split at h <;> (try split at h) <;> simp at h)
  intro args v h
  unfold mstimesS at h
  split at h
  · rename_i f g
    split at h
    · rename_i hc
      obtain ⟨hf, hg, e0⟩ := hc
      cases h
      refine ⟨by simp, by simp, by simp, ?_⟩
      simp [Try.f96, hf, hg, e0, fitV]
    · simp at h
  · simp at h

noncomputable def msplusS : List AV → PR
  | [.arr .u64 8 f, .arr .u64 8 g] => open Classical in if R8 f ∧ R8 g ∧ InW (sval f + sval g) then .val (W (sval f + sval g)) else .fail
  | _ => .fail
@[simp] theorem msplusS_val {f g : Nat → Int} (h : R8 f ∧ R8 g ∧ InW (sval f + sval g)) : msplusS [.arr .u64 8 f, .arr .u64 8 g] = .val (W (sval f + sval g)) := if_pos h
theorem msplus_ok : SumOk Try.prog 99 (pureS msplusS) := by
  refine sum_fn (L := fun _ => none) (n := 1) (S := stOf [(114, pureS addS)]) drawS Try.T_ok (stOf_ok (by simp [add_ok])) Try.func99 rfl (by kernel_rfl) (by kernel_rfl) ?_
    (by intro args v h; unfold msplusS at h; split at h <;> (try split at h) <;> simp at h)
  intro args v h
  unfold msplusS at h
  split at h
  · rename_i f g
    split at h
    · rename_i hc
      obtain ⟨hf, hg, e0⟩ := hc
      cases h
      refine ⟨by simp, by simp, by simp, ?_⟩
      simp [Try.f99, hf, hg, e0, fitV]
    · simp at h
  · simp at h

noncomputable def msqS : List AV → PR
  | [.int .i64 a] => open Classical in if InI a then .val (W (a * a)) else .fail
  | _ => .fail
@[simp] theorem msqS_val {a : Int} (h : InI a) : msqS [.int .i64 a] = .val (W (a * a)) := if_pos h
theorem msq_ok : SumOk Try.prog 95 (pureS msqS) := by
  refine sum_fn (L := fun _ => none) (n := 1) (S := stOf [(96, pureS mstimesS), (97, pureS ofS)]) drawS Try.T_ok (stOf_ok (by simp [mstimes_ok, of_ok])) Try.func95 rfl (by kernel_rfl) (by kernel_rfl) ?_
    (by intro args v h; unfold msqS at h; split at h <;> (try split at h) <;> simp at h)
  intro args v h
  unfold msqS at h
  split at h
  · rename_i a
    split at h
    · rename_i hc
      have ha := hc
      cases h
      refine ⟨by simp, by simp, by simp, ?_⟩
      have i0 : InW (a * a) := ((Bd.of ha).mul (Bd.of ha)).w (by decide)
      simp [Try.f95, fitI ha, ofS_in ha, i0, R8_limb]
    · simp at h
  · simp at h

noncomputable def mmomS : Sum := fun args env _ => match args with
  | [.int .i64 a, .int .i64 d, .ptr p 0, .ptr q 0] => match env p, env q with
    | some ⟨[.int .i64 m], _⟩, some ⟨[.fn 95 []], _⟩ => open Classical in if InI a ∧ InI d ∧ InI m ∧ p ≠ q then .val (.int .i64 (momI m a d)) [] [] else .fail
    | _, _ => .fail
  | _ => .fail
set_option maxHeartbeats 4000000 in
theorem mmom_ok : SumOk Try.prog 98 mmomS := by
  refine sum_read (L := fun i => if i = 1 then some (.held 18 [14, 15]) else none) (n := 1) (S := stOf [(97, pureS ofS), (95, pureS msqS), (99, pureS msplusS), (96, pureS mstimesS), (74, pureS divS), (64, pureS finS)]) drawS Try.T_ok (stOf_ok (by simp [of_ok, msq_ok, msplus_ok, mstimes_ok, div_ok, fin_ok])) Try.func98 rfl (by kernel_rfl) (by kernel_rfl) ?_
  intro args env nxt h
  unfold mmomS at h ⊢
  split at h
  · rename_i a d p q
    split at h
    · rename_i m ty0  ty1 m0 m1
      split at h
      · rename_i hc
        obtain ⟨ha, hd, hm, hne⟩ := id hc
        refine ⟨_, _, _, .int .i64 (momI m a d), laid2 [.int .i64 a, .int .i64 d, .ptr 0 0, .ptr 1 0] rfl (by simp) m0 m1 hne rfl rfl, by first | exact if_pos hc | (simp only [m0, m1]; exact if_pos hc) | (simp [m0, m1]; exact hc), by simp, by simp, ?_⟩
        have k1 := (Bd.of ha).mul (Bd.of ha)
        have k2 := (Bd.of hd).mul (Bd.of hd)
        have w1 := k1.w (by decide)
        have w2 := k2.w (by decide)
        have w3 := (k1.add k2).w (by decide)
        have k4 := W_K3 hm ha hd
        have w4 := k4.w (by decide)
        have w5 := (k4.quoI (show (0 : Int) < 3 by decide)).w (by decide)
        simp [Try.f98, ha, hd, R8_limb, quoV, momI_is, ofS_in InI_3, ofS_in hm, sval_limb InW_3, sval_limb (InI.w hm), sval_limb w1, sval_limb w2, w3, sval_limb w3, w4, sval_limb w4, w5, sval_limb w5]
      · simp at h
    · simp at h
  · simp at h

noncomputable def mback0S : List AV → PR
  | [.int .i64 a] => open Classical in if InI a then .val (.int .i64 (backI a)) else .fail
  | _ => .fail
@[simp] theorem mback0S_val {a : Int} (h : InI a) : mback0S [.int .i64 a] = .val (.int .i64 (backI a)) := if_pos h
theorem mback0_ok : SumOk Try.prog 103 (pureS mback0S) := by
  refine sum_fn (L := fun _ => none) (n := 1) (S := stOf [(152, pureS fDivS)]) drawS Try.T_ok (stOf_ok (by simp [fDiv_ok])) Try.func103 rfl (by kernel_rfl) (by kernel_rfl) ?_
    (by intro args v h; unfold mback0S at h; split at h <;> (try split at h) <;> simp at h)
  intro args v h
  unfold mback0S at h
  split at h
  · rename_i a
    split at h
    · rename_i hc
      have ha := hc
      cases h
      refine ⟨by simp, by simp, by simp, ?_⟩
      by_cases h1 : 0 < a
      · have h2 : ¬ a = 0 := by omega
        simp [ha, InI_one, Try.f103, h1, h2, backI_pos h1]
      · simp [Try.f103, h1, backI_not h1]
    · simp at h
  · simp at h

noncomputable def mBackS : List AV → PR
  | [.agg [.int .i64 b0, .int .i64 b1, .int .i64 b2, .int .i64 b3]] => open Classical in if InI b0 ∧ InI b1 ∧ InI b2 ∧ InI b3 then .val (.agg [.int .i64 (backI b0), .int .i64 (backI b1), .int .i64 (backI b2), .int .i64 (backI b3)]) else .fail
  | _ => .fail
@[simp] theorem mBackS_val {b0 b1 b2 b3 : Int} (h : InI b0 ∧ InI b1 ∧ InI b2 ∧ InI b3) : mBackS [.agg [.int .i64 b0, .int .i64 b1, .int .i64 b2, .int .i64 b3]] = .val (.agg [.int .i64 (backI b0), .int .i64 (backI b1), .int .i64 (backI b2), .int .i64 (backI b3)]) := if_pos h
theorem mBack_ok : SumOk Try.prog 46 (pureS mBackS) := by
  refine sum_fn (L := fun i => if i = 1 then some (.quiet 17) else none) (n := 1) (S := stOf [(103, pureS mback0S)]) drawS Try.T_ok (stOf_ok (by simp [mback0_ok])) Try.func46 rfl (by kernel_rfl) (by kernel_rfl) ?_
    (by intro args v h; unfold mBackS at h; split at h <;> (try split at h) <;> simp at h)
  intro args v h
  unfold mBackS at h
  split at h
  · rename_i b0 b1 b2 b3
    split at h
    · rename_i hc
      obtain ⟨hb0, hb1, hb2, hb3⟩ := hc
      cases h
      refine ⟨by simp, by simp, by simp, ?_⟩
      simp [Try.f46, hb0, hb1, hb2, hb3]
    · simp at h
  · simp at h

noncomputable def once10S : List AV → PR
  | [.int .i64 a, .int .i64 d] => open Classical in if InI a ∧ InI d ∧ d = backI a then .val (.bool true) else .fail
  | _ => .fail
@[simp] theorem once10S_val {a d : Int} (h : InI a ∧ InI d ∧ d = backI a) : once10S [.int .i64 a, .int .i64 d] = .val (.bool true) := if_pos h
set_option maxHeartbeats 4000000 in
theorem once10_ok : SumOk Try.prog 47 (pureS once10S) := by
  refine sum_fn (L := fun _ => none) (n := 1) (S := stOf [(104, pureS fMulUpS)]) drawS Try.T_ok (stOf_ok (by simp [fMulUp_ok])) Try.func47 rfl (by kernel_rfl) (by kernel_rfl) ?_
    (by intro args v h; unfold once10S at h; split at h <;> (try split at h) <;> simp at h)
  intro args v h
  unfold once10S at h
  split at h
  · rename_i a d
    split at h
    · rename_i hc
      obtain ⟨ha, hd, e0⟩ := hc
      cases h
      refine ⟨by simp, by simp, by simp, ?_⟩
      subst e0
      by_cases h1 : 0 < a
      · have h2 : ¬ a ≤ 0 := by omega
        have sp := quoI_is (a := 18446744073709551616) h1
        obtain ⟨q, hq⟩ : ∃ q, quoI 18446744073709551616 a = q := ⟨_, rfl⟩
        rw [hq] at sp
        have q0 : 0 ≤ q := by
          rcases Int.lt_or_le q 0 with h | h
          · exfalso
            have := Int.mul_le_mul_of_nonneg_right (show q ≤ -1 by omega) (show 0 ≤ a by omega)
            omega
          · exact h
        by_cases hb : InI q
        · have e1 : backI a = q := by rw [← backI_pos h1, hq, clampI_self hb]
          have c1 : a * q ≤ 18446744073709551616 := by rw [Int.mul_comm]; exact sp.1
          have c0 : 0 ≤ a * q := Int.mul_nonneg (by omega) q0
          have c2 : ceilI (a * q) ≤ 4294967296 := by unfold ceilI; split <;> omega
          have c3 : 0 ≤ ceilI (a * q) := by unfold ceilI; split <;> omega
          have c4 : clampI (ceilI (a * q)) = ceilI (a * q) := clampI_self (by unfold InI; omega)
          by_cases hm : q = 9223372036854775807
          · subst hm
            simp [ha, hd, fitI ha, fitI hd, R8_limb, Try.f47, h2, e1, hb, c2, c4]
          · have hb1 : InI (q + 1) := by unfold InI at *; omega
            have w1 : IntKind.i64.wrap (q + 1) = q + 1 := wrap_i64_in hb1.1 hb1.2
            have d1 : 18446744073709551616 ≤ a * (q + 1) := by
              have : a * (q + 1) = q * a + a := by grind
              omega
            have d2 : 4294967296 ≤ ceilI (a * (q + 1)) := by unfold ceilI; split <;> omega
            have d3 : 4294967296 ≤ clampI (ceilI (a * (q + 1))) := by
              by_cases hi : InI (ceilI (a * (q + 1)))
              · rw [clampI_self hi]; exact d2
              · unfold InI at hi; rw [clampI_hi (by omega)]; decide
            simp [ha, hd, fitI ha, fitI hd, R8_limb, Try.f47, h2, e1, hb, hb1, q0, c2, c4, w1, d3, hm]
        · have e1 : backI a = 9223372036854775807 := by
            rw [← backI_pos h1, hq]
            exact clampI_hi (by unfold InI at hb; omega)
          have hq2 : 9223372036854775808 ≤ q := by unfold InI at hb; omega
          have c1 : a * 9223372036854775807 ≤ 18446744073709551616 := by
            have := Int.mul_le_mul_of_nonneg_right hq2 (show 0 ≤ a by omega)
            have e2 : a * 9223372036854775807 = 9223372036854775808 * a - a := by omega
            omega
          have c0 : 0 ≤ a * 9223372036854775807 := by omega
          have c2 : ceilI (a * 9223372036854775807) ≤ 4294967296 := by unfold ceilI; split <;> omega
          have c3 : 0 ≤ ceilI (a * 9223372036854775807) := by unfold ceilI; split <;> omega
          have c4 : clampI (ceilI (a * 9223372036854775807)) = ceilI (a * 9223372036854775807) := clampI_self (by unfold InI; omega)
          have hi : InI 9223372036854775807 := by decide
          simp [ha, hd, fitI ha, fitI hd, R8_limb, Try.f47, h2, e1, hi, c2, c4]
      · have h2 : a ≤ 0 := by omega
        simp [ha, hd, fitI ha, fitI hd, R8_limb, Try.f47, h2, backI_not h1]
    · simp at h
  · simp at h

end Go.X
