/- Masses and moments; shapes without a list. -/
import Derived.Test.YtpojeehijepmhaaGreatGS
import Derived.Test.YtpojeehijepmhaaGreatGV
namespace Go.X
open Go.Proofs
attribute [local irreducible] Good
attribute [simp] Tryz.T_55
attribute [simp] Tryz.T_79
def momI (m a b : Int) : Int := clampI (quoI (m * (a * a + b * b)) 3 / 18446744073709551616)
theorem momI_is {m a b : Int} : clampI (quoI (m * (a * a + b * b)) 3 / 18446744073709551616) = momI m a b := rfl
theorem momI_other {m a b : Int} : clampI (quoI (m * (a * a + b * b)) 55340232221128654848) = momI m a b := by
  have e1 : quoI (m * (a * a + b * b)) 55340232221128654848 = m * (a * a + b * b) / 55340232221128654848 := by unfold quoI; rw [if_pos (by decide)]
  have e2 : quoI (m * (a * a + b * b)) 3 = m * (a * a + b * b) / 3 := by unfold quoI; rw [if_pos (by decide)]
  unfold momI
  rw [e1, e2, Int.ediv_ediv_of_nonneg (by decide)]
  rfl
theorem momI_in {m a b : Int} : InI (momI m a b) := InI_clamp _
def backI (a : Int) : Int := if 0 < a then clampI (quoI 18446744073709551616 a) else 0
theorem backI_in {a : Int} : InI (backI a) := by unfold backI; split; exact InI_clamp _; exact InI_zero
theorem backI_pos {a : Int} (h : 0 < a) : clampI (quoI 18446744073709551616 a) = backI a := by unfold backI; rw [if_pos h]
theorem backI_not {a : Int} (h : ¬ 0 < a) : backI a = 0 := by unfold backI; rw [if_neg h]
theorem W_K3 {m a b : Int} (hm : InI m) (ha : InI a) (hb : InI b) : Bd 190 (m * (a * a + b * b)) :=
  (Bd.of hm).mul (((Bd.of ha).mul (Bd.of ha)).add ((Bd.of hb).mul (Bd.of hb)))
theorem InW_3 : InW 3 := InI.w (by decide)
theorem InI_3 : InI 3 := by decide
noncomputable def mstimesS : List AV → PR
  | [.arr .u64 8 f, .arr .u64 8 g] => open Classical in if R8 f ∧ R8 g ∧ InW (sval f * sval g) then .val (W (sval f * sval g)) else .fail
  | _ => .fail
@[simp] theorem mstimesS_val {f g : Nat → Int} (h : R8 f ∧ R8 g ∧ InW (sval f * sval g)) : mstimesS [.arr .u64 8 f, .arr .u64 8 g] = .val (W (sval f * sval g)) := if_pos h
theorem mstimes_ok : SumOk Tryz.prog 34 (pureS mstimesS) := by
  refine sum_fn (L := fun _ => none) (n := 1) (S := stOf [(69, pureS mulS)]) drawS Tryz.T_ok (stOf_ok (by simp [mul_ok])) Tryz.func34 rfl (by kernel_rfl) (by kernel_rfl) ?_
    (by intro args v h; unfold mstimesS at h; split at h <;> (try split at h) <;> simp at h)
  intro args v h
  unfold mstimesS at h
  split at h
  · rename_i f g
    split at h
    · rename_i hc
      obtain ⟨hf, hg, e0⟩ := hc
      cases h
      refine ⟨by simp, by simp, by simp, ?_⟩
      simp [Tryz.f34, hf, hg, e0, fitV]
    · simp at h
  · simp at h
noncomputable def msplusS : List AV → PR
  | [.arr .u64 8 f, .arr .u64 8 g] => open Classical in if R8 f ∧ R8 g ∧ InW (sval f + sval g) then .val (W (sval f + sval g)) else .fail
  | _ => .fail
@[simp] theorem msplusS_val {f g : Nat → Int} (h : R8 f ∧ R8 g ∧ InW (sval f + sval g)) : msplusS [.arr .u64 8 f, .arr .u64 8 g] = .val (W (sval f + sval g)) := if_pos h
theorem msplus_ok : SumOk Tryz.prog 38 (pureS msplusS) := by
  refine sum_fn (L := fun _ => none) (n := 1) (S := stOf [(78, pureS addS)]) drawS Tryz.T_ok (stOf_ok (by simp [add_ok])) Tryz.func38 rfl (by kernel_rfl) (by kernel_rfl) ?_
    (by intro args v h; unfold msplusS at h; split at h <;> (try split at h) <;> simp at h)
  intro args v h
  unfold msplusS at h
  split at h
  · rename_i f g
    split at h
    · rename_i hc
      obtain ⟨hf, hg, e0⟩ := hc
      cases h
      refine ⟨by simp, by simp, by simp, ?_⟩
      simp [Tryz.f38, hf, hg, e0, fitV]
    · simp at h
  · simp at h
noncomputable def msqS : List AV → PR
  | [.int .i64 a] => open Classical in if InI a then .val (W (a * a)) else .fail
  | _ => .fail
@[simp] theorem msqS_val {a : Int} (h : InI a) : msqS [.int .i64 a] = .val (W (a * a)) := if_pos h
theorem msq_ok : SumOk Tryz.prog 33 (pureS msqS) := by
  refine sum_fn (L := fun _ => none) (n := 1) (S := stOf [(34, pureS mstimesS), (35, pureS ofS)]) drawS Tryz.T_ok (stOf_ok (by simp [mstimes_ok, of_ok])) Tryz.func33 rfl (by kernel_rfl) (by kernel_rfl) ?_
    (by intro args v h; unfold msqS at h; split at h <;> (try split at h) <;> simp at h)
  intro args v h
  unfold msqS at h
  split at h
  · rename_i a
    split at h
    · rename_i hc
      have ha := hc
      cases h
      refine ⟨by simp, by simp, by simp, ?_⟩
      have i0 : InW (a * a) := ((Bd.of ha).mul (Bd.of ha)).w (by decide)
      simp [Tryz.f33, fitI ha, ofS_in ha, i0, R8_limb]
    · simp at h
  · simp at h
noncomputable def mmomS : Sum := fun args env _ => match args with
  | [.int .i64 a, .int .i64 d, .ptr p 0, .ptr q 0] => match env p, env q with
    | some ⟨[.int .i64 m], _⟩, some ⟨[.fn 33 []], _⟩ => open Classical in if InI a ∧ InI d ∧ InI m ∧ p ≠ q then .val (.int .i64 (momI m a d)) [] [] else .fail
    | _, _ => .fail
  | _ => .fail
set_option maxHeartbeats 4000000 in
theorem mmom_ok : SumOk Tryz.prog 36 mmomS := by
  refine sum_read (L := fun i => if i = 1 then some (.held 18 [14, 15]) else none) (n := 1) (S := stOf [(35, pureS ofS), (33, pureS msqS), (38, pureS msplusS), (34, pureS mstimesS), (37, pureS divS), (39, pureS finS)]) drawS Tryz.T_ok (stOf_ok (by simp [of_ok, msq_ok, msplus_ok, mstimes_ok, div_ok, fin_ok])) Tryz.func36 rfl (by kernel_rfl) (by kernel_rfl) ?_
  intro args env nxt h
  unfold mmomS at h ⊢
  split at h
  · rename_i a d p q
    split at h
    · rename_i m ty0  ty1 m0 m1
      split at h
      · rename_i hc
        obtain ⟨ha, hd, hm, hne⟩ := id hc
        refine ⟨_, _, _, .int .i64 (momI m a d), laid2 [.int .i64 a, .int .i64 d, .ptr 0 0, .ptr 1 0] rfl (by simp) m0 m1 hne rfl rfl, by first | exact if_pos hc | (simp only [m0, m1]; exact if_pos hc) | (simp [m0, m1]; exact hc), by simp, by simp, ?_⟩
        have k1 := (Bd.of ha).mul (Bd.of ha)
        have k2 := (Bd.of hd).mul (Bd.of hd)
        have w1 := k1.w (by decide)
        have w2 := k2.w (by decide)
        have w3 := (k1.add k2).w (by decide)
        have k4 := W_K3 hm ha hd
        have w4 := k4.w (by decide)
        have w5 := (k4.quoI (show (0 : Int) < 3 by decide)).w (by decide)
        simp [Tryz.f36, ha, hd, R8_limb, quoV, momI_is, ofS_in InI_3, ofS_in hm, sval_limb InW_3, sval_limb (InI.w hm), sval_limb w1, sval_limb w2, w3, sval_limb w3, w4, sval_limb w4, w5, sval_limb w5]
      · simp at h
    · simp at h
  · simp at h
noncomputable def mback0S : List AV → PR
  | [.int .i64 a] => open Classical in if InI a then .val (.int .i64 (backI a)) else .fail
  | _ => .fail
@[simp] theorem mback0S_val {a : Int} (h : InI a) : mback0S [.int .i64 a] = .val (.int .i64 (backI a)) := if_pos h
theorem mback0_ok : SumOk Tryz.prog 40 (pureS mback0S) := by
  refine sum_fn (L := fun _ => none) (n := 1) (S := stOf [(82, pureS fDivS)]) drawS Tryz.T_ok (stOf_ok (by simp [fDiv_ok])) Tryz.func40 rfl (by kernel_rfl) (by kernel_rfl) ?_
    (by intro args v h; unfold mback0S at h; split at h <;> (try split at h) <;> simp at h)
  intro args v h
  unfold mback0S at h
  split at h
  · rename_i a
    split at h
    · rename_i hc
      have ha := hc
      cases h
      refine ⟨by simp, by simp, by simp, ?_⟩
      by_cases h1 : 0 < a
      · have h2 : ¬ a = 0 := by omega
        simp [ha, InI_one, Tryz.f40, h1, h2, backI_pos h1]
      · simp [Tryz.f40, h1, backI_not h1]
    · simp at h
  · simp at h
noncomputable def mBackS : List AV → PR
  | [.agg [.int .i64 b0, .int .i64 b1, .int .i64 b2, .int .i64 b3]] => open Classical in if InI b0 ∧ InI b1 ∧ InI b2 ∧ InI b3 then .val (.agg [.int .i64 (backI b0), .int .i64 (backI b1), .int .i64 (backI b2), .int .i64 (backI b3)]) else .fail
  | _ => .fail
@[simp] theorem mBackS_val {b0 b1 b2 b3 : Int} (h : InI b0 ∧ InI b1 ∧ InI b2 ∧ InI b3) : mBackS [.agg [.int .i64 b0, .int .i64 b1, .int .i64 b2, .int .i64 b3]] = .val (.agg [.int .i64 (backI b0), .int .i64 (backI b1), .int .i64 (backI b2), .int .i64 (backI b3)]) := if_pos h
theorem mBack_ok : SumOk Tryz.prog 16 (pureS mBackS) := by
  refine sum_fn (L := fun i => if i = 1 then some (.quiet 17) else none) (n := 1) (S := stOf [(40, pureS mback0S)]) drawS Tryz.T_ok (stOf_ok (by simp [mback0_ok])) Tryz.func16 rfl (by kernel_rfl) (by kernel_rfl) ?_
    (by intro args v h; unfold mBackS at h; split at h <;> (try split at h) <;> simp at h)
  intro args v h
  unfold mBackS at h
  split at h
  · rename_i b0 b1 b2 b3
    split at h
    · rename_i hc
      obtain ⟨hb0, hb1, hb2, hb3⟩ := hc
      cases h
      refine ⟨by simp, by simp, by simp, ?_⟩
      simp [Tryz.f16, hb0, hb1, hb2, hb3]
    · simp at h
  · simp at h
end Go.X
