/- Masses and moments: of shapes without a list; the laws that need no more. -/
import Derived.Test.YtpojeehijepmhaaGreatJS3
import Derived.Test.YtpojeehijepmhaaGreatGS
namespace Go.X
open Go.Proofs
attribute [local irreducible] Good
noncomputable def mTurnS : List AV → PR
  | [.agg [.int .i64 x, .int .i64 y, .int .i64 z], .agg [.int .i64 q0, .int .i64 q1, .int .i64 q2, .int .i64 q3]] => open Classical in if InI x ∧ InI y ∧ InI z ∧ InI q0 ∧ InI q1 ∧ InI q2 ∧ InI q3 then .val (if TurnP q0 q1 q2 q3 then .tup [.agg [.int .i64 (clampI ((clampI (quoI (r00 q0 q1 q2 q3 * 4294967296) (sq4 q0 q1 q2 q3)) * x * clampI (quoI (r00 q0 q1 q2 q3 * 4294967296) (sq4 q0 q1 q2 q3)) + clampI (quoI (r01 q0 q1 q2 q3 * 4294967296) (sq4 q0 q1 q2 q3)) * y * clampI (quoI (r01 q0 q1 q2 q3 * 4294967296) (sq4 q0 q1 q2 q3)) + clampI (quoI (r02 q0 q1 q2 q3 * 4294967296) (sq4 q0 q1 q2 q3)) * z * clampI (quoI (r02 q0 q1 q2 q3 * 4294967296) (sq4 q0 q1 q2 q3))) / 18446744073709551616)), .int .i64 (clampI ((clampI (quoI (r00 q0 q1 q2 q3 * 4294967296) (sq4 q0 q1 q2 q3)) * x * clampI (quoI (r10 q0 q1 q2 q3 * 4294967296) (sq4 q0 q1 q2 q3)) + clampI (quoI (r01 q0 q1 q2 q3 * 4294967296) (sq4 q0 q1 q2 q3)) * y * clampI (quoI (r11 q0 q1 q2 q3 * 4294967296) (sq4 q0 q1 q2 q3)) + clampI (quoI (r02 q0 q1 q2 q3 * 4294967296) (sq4 q0 q1 q2 q3)) * z * clampI (quoI (r12 q0 q1 q2 q3 * 4294967296) (sq4 q0 q1 q2 q3))) / 18446744073709551616)), .int .i64 (clampI ((clampI (quoI (r00 q0 q1 q2 q3 * 4294967296) (sq4 q0 q1 q2 q3)) * x * clampI (quoI (r20 q0 q1 q2 q3 * 4294967296) (sq4 q0 q1 q2 q3)) + clampI (quoI (r01 q0 q1 q2 q3 * 4294967296) (sq4 q0 q1 q2 q3)) * y * clampI (quoI (r21 q0 q1 q2 q3 * 4294967296) (sq4 q0 q1 q2 q3)) + clampI (quoI (r02 q0 q1 q2 q3 * 4294967296) (sq4 q0 q1 q2 q3)) * z * clampI (quoI (r22 q0 q1 q2 q3 * 4294967296) (sq4 q0 q1 q2 q3))) / 18446744073709551616)), .int .i64 (clampI ((clampI (quoI (r10 q0 q1 q2 q3 * 4294967296) (sq4 q0 q1 q2 q3)) * x * clampI (quoI (r00 q0 q1 q2 q3 * 4294967296) (sq4 q0 q1 q2 q3)) + clampI (quoI (r11 q0 q1 q2 q3 * 4294967296) (sq4 q0 q1 q2 q3)) * y * clampI (quoI (r01 q0 q1 q2 q3 * 4294967296) (sq4 q0 q1 q2 q3)) + clampI (quoI (r12 q0 q1 q2 q3 * 4294967296) (sq4 q0 q1 q2 q3)) * z * clampI (quoI (r02 q0 q1 q2 q3 * 4294967296) (sq4 q0 q1 q2 q3))) / 18446744073709551616)), .int .i64 (clampI ((clampI (quoI (r10 q0 q1 q2 q3 * 4294967296) (sq4 q0 q1 q2 q3)) * x * clampI (quoI (r10 q0 q1 q2 q3 * 4294967296) (sq4 q0 q1 q2 q3)) + clampI (quoI (r11 q0 q1 q2 q3 * 4294967296) (sq4 q0 q1 q2 q3)) * y * clampI (quoI (r11 q0 q1 q2 q3 * 4294967296) (sq4 q0 q1 q2 q3)) + clampI (quoI (r12 q0 q1 q2 q3 * 4294967296) (sq4 q0 q1 q2 q3)) * z * clampI (quoI (r12 q0 q1 q2 q3 * 4294967296) (sq4 q0 q1 q2 q3))) / 18446744073709551616)), .int .i64 (clampI ((clampI (quoI (r10 q0 q1 q2 q3 * 4294967296) (sq4 q0 q1 q2 q3)) * x * clampI (quoI (r20 q0 q1 q2 q3 * 4294967296) (sq4 q0 q1 q2 q3)) + clampI (quoI (r11 q0 q1 q2 q3 * 4294967296) (sq4 q0 q1 q2 q3)) * y * clampI (quoI (r21 q0 q1 q2 q3 * 4294967296) (sq4 q0 q1 q2 q3)) + clampI (quoI (r12 q0 q1 q2 q3 * 4294967296) (sq4 q0 q1 q2 q3)) * z * clampI (quoI (r22 q0 q1 q2 q3 * 4294967296) (sq4 q0 q1 q2 q3))) / 18446744073709551616)), .int .i64 (clampI ((clampI (quoI (r20 q0 q1 q2 q3 * 4294967296) (sq4 q0 q1 q2 q3)) * x * clampI (quoI (r00 q0 q1 q2 q3 * 4294967296) (sq4 q0 q1 q2 q3)) + clampI (quoI (r21 q0 q1 q2 q3 * 4294967296) (sq4 q0 q1 q2 q3)) * y * clampI (quoI (r01 q0 q1 q2 q3 * 4294967296) (sq4 q0 q1 q2 q3)) + clampI (quoI (r22 q0 q1 q2 q3 * 4294967296) (sq4 q0 q1 q2 q3)) * z * clampI (quoI (r02 q0 q1 q2 q3 * 4294967296) (sq4 q0 q1 q2 q3))) / 18446744073709551616)), .int .i64 (clampI ((clampI (quoI (r20 q0 q1 q2 q3 * 4294967296) (sq4 q0 q1 q2 q3)) * x * clampI (quoI (r10 q0 q1 q2 q3 * 4294967296) (sq4 q0 q1 q2 q3)) + clampI (quoI (r21 q0 q1 q2 q3 * 4294967296) (sq4 q0 q1 q2 q3)) * y * clampI (quoI (r11 q0 q1 q2 q3 * 4294967296) (sq4 q0 q1 q2 q3)) + clampI (quoI (r22 q0 q1 q2 q3 * 4294967296) (sq4 q0 q1 q2 q3)) * z * clampI (quoI (r12 q0 q1 q2 q3 * 4294967296) (sq4 q0 q1 q2 q3))) / 18446744073709551616)), .int .i64 (clampI ((clampI (quoI (r20 q0 q1 q2 q3 * 4294967296) (sq4 q0 q1 q2 q3)) * x * clampI (quoI (r20 q0 q1 q2 q3 * 4294967296) (sq4 q0 q1 q2 q3)) + clampI (quoI (r21 q0 q1 q2 q3 * 4294967296) (sq4 q0 q1 q2 q3)) * y * clampI (quoI (r21 q0 q1 q2 q3 * 4294967296) (sq4 q0 q1 q2 q3)) + clampI (quoI (r22 q0 q1 q2 q3 * 4294967296) (sq4 q0 q1 q2 q3)) * z * clampI (quoI (r22 q0 q1 q2 q3 * 4294967296) (sq4 q0 q1 q2 q3))) / 18446744073709551616))], .int .i64 0] else .tup [.agg [.int .i64 0, .int .i64 0, .int .i64 0, .int .i64 0, .int .i64 0, .int .i64 0, .int .i64 0, .int .i64 0, .int .i64 0], .int .i64 9]) else .fail
  | _ => .fail
@[simp] theorem mTurnS_val {x y z q0 q1 q2 q3 : Int} (h : InI x ∧ InI y ∧ InI z ∧ InI q0 ∧ InI q1 ∧ InI q2 ∧ InI q3) : mTurnS [.agg [.int .i64 x, .int .i64 y, .int .i64 z], .agg [.int .i64 q0, .int .i64 q1, .int .i64 q2, .int .i64 q3]] = .val (if TurnP q0 q1 q2 q3 then .tup [.agg [.int .i64 (clampI ((clampI (quoI (r00 q0 q1 q2 q3 * 4294967296) (sq4 q0 q1 q2 q3)) * x * clampI (quoI (r00 q0 q1 q2 q3 * 4294967296) (sq4 q0 q1 q2 q3)) + clampI (quoI (r01 q0 q1 q2 q3 * 4294967296) (sq4 q0 q1 q2 q3)) * y * clampI (quoI (r01 q0 q1 q2 q3 * 4294967296) (sq4 q0 q1 q2 q3)) + clampI (quoI (r02 q0 q1 q2 q3 * 4294967296) (sq4 q0 q1 q2 q3)) * z * clampI (quoI (r02 q0 q1 q2 q3 * 4294967296) (sq4 q0 q1 q2 q3))) / 18446744073709551616)), .int .i64 (clampI ((clampI (quoI (r00 q0 q1 q2 q3 * 4294967296) (sq4 q0 q1 q2 q3)) * x * clampI (quoI (r10 q0 q1 q2 q3 * 4294967296) (sq4 q0 q1 q2 q3)) + clampI (quoI (r01 q0 q1 q2 q3 * 4294967296) (sq4 q0 q1 q2 q3)) * y * clampI (quoI (r11 q0 q1 q2 q3 * 4294967296) (sq4 q0 q1 q2 q3)) + clampI (quoI (r02 q0 q1 q2 q3 * 4294967296) (sq4 q0 q1 q2 q3)) * z * clampI (quoI (r12 q0 q1 q2 q3 * 4294967296) (sq4 q0 q1 q2 q3))) / 18446744073709551616)), .int .i64 (clampI ((clampI (quoI (r00 q0 q1 q2 q3 * 4294967296) (sq4 q0 q1 q2 q3)) * x * clampI (quoI (r20 q0 q1 q2 q3 * 4294967296) (sq4 q0 q1 q2 q3)) + clampI (quoI (r01 q0 q1 q2 q3 * 4294967296) (sq4 q0 q1 q2 q3)) * y * clampI (quoI (r21 q0 q1 q2 q3 * 4294967296) (sq4 q0 q1 q2 q3)) + clampI (quoI (r02 q0 q1 q2 q3 * 4294967296) (sq4 q0 q1 q2 q3)) * z * clampI (quoI (r22 q0 q1 q2 q3 * 4294967296) (sq4 q0 q1 q2 q3))) / 18446744073709551616)), .int .i64 (clampI ((clampI (quoI (r10 q0 q1 q2 q3 * 4294967296) (sq4 q0 q1 q2 q3)) * x * clampI (quoI (r00 q0 q1 q2 q3 * 4294967296) (sq4 q0 q1 q2 q3)) + clampI (quoI (r11 q0 q1 q2 q3 * 4294967296) (sq4 q0 q1 q2 q3)) * y * clampI (quoI (r01 q0 q1 q2 q3 * 4294967296) (sq4 q0 q1 q2 q3)) + clampI (quoI (r12 q0 q1 q2 q3 * 4294967296) (sq4 q0 q1 q2 q3)) * z * clampI (quoI (r02 q0 q1 q2 q3 * 4294967296) (sq4 q0 q1 q2 q3))) / 18446744073709551616)), .int .i64 (clampI ((clampI (quoI (r10 q0 q1 q2 q3 * 4294967296) (sq4 q0 q1 q2 q3)) * x * clampI (quoI (r10 q0 q1 q2 q3 * 4294967296) (sq4 q0 q1 q2 q3)) + clampI (quoI (r11 q0 q1 q2 q3 * 4294967296) (sq4 q0 q1 q2 q3)) * y * clampI (quoI (r11 q0 q1 q2 q3 * 4294967296) (sq4 q0 q1 q2 q3)) + clampI (quoI (r12 q0 q1 q2 q3 * 4294967296) (sq4 q0 q1 q2 q3)) * z * clampI (quoI (r12 q0 q1 q2 q3 * 4294967296) (sq4 q0 q1 q2 q3))) / 18446744073709551616)), .int .i64 (clampI ((clampI (quoI (r10 q0 q1 q2 q3 * 4294967296) (sq4 q0 q1 q2 q3)) * x * clampI (quoI (r20 q0 q1 q2 q3 * 4294967296) (sq4 q0 q1 q2 q3)) + clampI (quoI (r11 q0 q1 q2 q3 * 4294967296) (sq4 q0 q1 q2 q3)) * y * clampI (quoI (r21 q0 q1 q2 q3 * 4294967296) (sq4 q0 q1 q2 q3)) + clampI (quoI (r12 q0 q1 q2 q3 * 4294967296) (sq4 q0 q1 q2 q3)) * z * clampI (quoI (r22 q0 q1 q2 q3 * 4294967296) (sq4 q0 q1 q2 q3))) / 18446744073709551616)), .int .i64 (clampI ((clampI (quoI (r20 q0 q1 q2 q3 * 4294967296) (sq4 q0 q1 q2 q3)) * x * clampI (quoI (r00 q0 q1 q2 q3 * 4294967296) (sq4 q0 q1 q2 q3)) + clampI (quoI (r21 q0 q1 q2 q3 * 4294967296) (sq4 q0 q1 q2 q3)) * y * clampI (quoI (r01 q0 q1 q2 q3 * 4294967296) (sq4 q0 q1 q2 q3)) + clampI (quoI (r22 q0 q1 q2 q3 * 4294967296) (sq4 q0 q1 q2 q3)) * z * clampI (quoI (r02 q0 q1 q2 q3 * 4294967296) (sq4 q0 q1 q2 q3))) / 18446744073709551616)), .int .i64 (clampI ((clampI (quoI (r20 q0 q1 q2 q3 * 4294967296) (sq4 q0 q1 q2 q3)) * x * clampI (quoI (r10 q0 q1 q2 q3 * 4294967296) (sq4 q0 q1 q2 q3)) + clampI (quoI (r21 q0 q1 q2 q3 * 4294967296) (sq4 q0 q1 q2 q3)) * y * clampI (quoI (r11 q0 q1 q2 q3 * 4294967296) (sq4 q0 q1 q2 q3)) + clampI (quoI (r22 q0 q1 q2 q3 * 4294967296) (sq4 q0 q1 q2 q3)) * z * clampI (quoI (r12 q0 q1 q2 q3 * 4294967296) (sq4 q0 q1 q2 q3))) / 18446744073709551616)), .int .i64 (clampI ((clampI (quoI (r20 q0 q1 q2 q3 * 4294967296) (sq4 q0 q1 q2 q3)) * x * clampI (quoI (r20 q0 q1 q2 q3 * 4294967296) (sq4 q0 q1 q2 q3)) + clampI (quoI (r21 q0 q1 q2 q3 * 4294967296) (sq4 q0 q1 q2 q3)) * y * clampI (quoI (r21 q0 q1 q2 q3 * 4294967296) (sq4 q0 q1 q2 q3)) + clampI (quoI (r22 q0 q1 q2 q3 * 4294967296) (sq4 q0 q1 q2 q3)) * z * clampI (quoI (r22 q0 q1 q2 q3 * 4294967296) (sq4 q0 q1 q2 q3))) / 18446744073709551616))], .int .i64 0] else .tup [.agg [.int .i64 0, .int .i64 0, .int .i64 0, .int .i64 0, .int .i64 0, .int .i64 0, .int .i64 0, .int .i64 0, .int .i64 0], .int .i64 9]) := if_pos h
set_option maxHeartbeats 40000000 in
theorem mTurn_ok : SumOk Tryz.prog 17 (pureS mTurnS) := by
  refine sum_fn (L := fun _ => none) (n := 1) (S := stOf [(41, pureS qMatrixS), (42, pureS mBtwS)]) drawS Tryz.T_ok (stOf_ok (by simp [qMatrix_ok, mBtw_ok])) Tryz.func17 rfl (by kernel_rfl) (by kernel_rfl) ?_
    (by intro args v h; unfold mTurnS at h; split at h <;> (try split at h) <;> simp at h)
  intro args v h
  unfold mTurnS at h
  split at h
  · rename_i x y z q0 q1 q2 q3
    split at h
    · rename_i hc
      obtain ⟨hx, hy, hz, hq0, hq1, hq2, hq3⟩ := hc
      cases h
      refine ⟨by simp, by (split <;> simp), by (split <;> simp), ?_⟩
      by_cases tt : TurnP q0 q1 q2 q3
      · simp (maxSteps := 10000000) [hx, hy, hz, hq0, hq1, hq2, hq3, InI_clamp, Tryz.f17, tt]
      · simp (maxSteps := 10000000) [hq0, hq1, hq2, hq3, Tryz.f17, tt]
    · simp at h
  · simp at h
noncomputable def r10back0S : List AV → PR
  | [.int .i64 a] => open Classical in if InI a then .val (.int .i64 (backI a)) else .fail
  | _ => .fail
@[simp] theorem r10back0S_val {a : Int} (h : InI a) : r10back0S [.int .i64 a] = .val (.int .i64 (backI a)) := if_pos h
theorem r10back0_ok : SumOk Tryz.prog 45 (pureS r10back0S) := by
  refine sum_fn (L := fun _ => none) (n := 1) (S := stOf [(102, pureS r2divS)]) drawS Tryz.T_ok (stOf_ok (by simp [r2div_ok])) Tryz.func45 rfl (by kernel_rfl) (by kernel_rfl) ?_
    (by intro args v h; unfold r10back0S at h; split at h <;> (try split at h) <;> simp at h)
  intro args v h
  unfold r10back0S at h
  split at h
  · rename_i a
    split at h
    · rename_i hc
      have ha := hc
      cases h
      refine ⟨by simp, by simp, by simp, ?_⟩
      by_cases h1 : 0 < a
      · have h2 : ¬ a ≤ 0 := by omega
        have h3 : ¬ a = 0 := by omega
        simp [ha, InI_one, Tryz.f45, h2, h3, backI_pos h1]
      · have h2 : a ≤ 0 := by omega
        simp [Tryz.f45, h2, backI_not h1]
    · simp at h
  · simp at h
noncomputable def r10BackS : List AV → PR
  | [.agg [.int .i64 b0, .int .i64 b1, .int .i64 b2, .int .i64 b3]] => open Classical in if InI b0 ∧ InI b1 ∧ InI b2 ∧ InI b3 then .val (.agg [.int .i64 (backI b0), .int .i64 (backI b1), .int .i64 (backI b2), .int .i64 (backI b3)]) else .fail
  | _ => .fail
@[simp] theorem r10BackS_val {b0 b1 b2 b3 : Int} (h : InI b0 ∧ InI b1 ∧ InI b2 ∧ InI b3) : r10BackS [.agg [.int .i64 b0, .int .i64 b1, .int .i64 b2, .int .i64 b3]] = .val (.agg [.int .i64 (backI b0), .int .i64 (backI b1), .int .i64 (backI b2), .int .i64 (backI b3)]) := if_pos h
theorem r10Back_ok : SumOk Tryz.prog 19 (pureS r10BackS) := by
  refine sum_fn (L := fun i => if i = 1 then some (.quiet 17) else none) (n := 1) (S := stOf [(45, pureS r10back0S)]) drawS Tryz.T_ok (stOf_ok (by simp [r10back0_ok])) Tryz.func19 rfl (by kernel_rfl) (by kernel_rfl) ?_
    (by intro args v h; unfold r10BackS at h; split at h <;> (try split at h) <;> simp at h)
  intro args v h
  unfold r10BackS at h
  split at h
  · rename_i b0 b1 b2 b3
    split at h
    · rename_i hc
      obtain ⟨hb0, hb1, hb2, hb3⟩ := hc
      cases h
      refine ⟨by simp, by simp, by simp, ?_⟩
      simp [Tryz.f19, hb0, hb1, hb2, hb3]
    · simp at h
  · simp at h
set_option maxHeartbeats 40000000 in
theorem r10Turn_ok : SumOk Tryz.prog 20 (pureS mTurnS) := by
  refine sum_fn (L := fun _ => none) (n := 1) (S := stOf [(46, pureS r5MatrixS), (47, pureS r4btwS)]) drawS Tryz.T_ok (stOf_ok (by simp [r5Matrix_ok, r4btw_ok])) Tryz.func20 rfl (by kernel_rfl) (by kernel_rfl) ?_
    (by intro args v h; unfold mTurnS at h; split at h <;> (try split at h) <;> simp at h)
  intro args v h
  unfold mTurnS at h
  split at h
  · rename_i x y z q0 q1 q2 q3
    split at h
    · rename_i hc
      obtain ⟨hx, hy, hz, hq0, hq1, hq2, hq3⟩ := hc
      cases h
      refine ⟨by simp, by (split <;> simp), by (split <;> simp), ?_⟩
      by_cases tt : TurnP q0 q1 q2 q3
      · simp (maxSteps := 10000000) [hx, hy, hz, hq0, hq1, hq2, hq3, InI_clamp, Tryz.f20, tt]
      · simp (maxSteps := 10000000) [hq0, hq1, hq2, hq3, Tryz.f20, tt]
    · simp at h
  · simp at h
end Go.X
