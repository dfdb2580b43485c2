/- The reference's inverse; what is always told of matrices; solving, in package mat. -/
import Derived.Test.YtfhooccdhmkaoaaJME
namespace Go.X
open Go.Proofs
attribute [local irreducible] Good
theorem InI_one : InI 4294967296 := by decide
theorem InI_zero : InI 0 := by decide

noncomputable def r4invS : List AV → PR
  | [.agg [.int .i64 a1, .int .i64 a2, .int .i64 a3, .int .i64 b1, .int .i64 b2, .int .i64 b3, .int .i64 c1, .int .i64 c2, .int .i64 c3]] => open Classical in if InI a1 ∧ InI a2 ∧ InI a3 ∧ InI b1 ∧ InI b2 ∧ InI b3 ∧ InI c1 ∧ InI c2 ∧ InI c3 then .val (if detI a1 a2 a3 b1 b2 b3 c1 c2 c3 = 0 then .tup [.agg [.int .i64 0, .int .i64 0, .int .i64 0, .int .i64 0, .int .i64 0, .int .i64 0, .int .i64 0, .int .i64 0, .int .i64 0], .bool false] else .tup [.agg [.int .i64 (clampI (quoI ((b2 * c3 - b3 * c2) * 2 ^ 64) (detI a1 a2 a3 b1 b2 b3 c1 c2 c3))), .int .i64 (clampI (quoI ((c2 * a3 - c3 * a2) * 2 ^ 64) (detI a1 a2 a3 b1 b2 b3 c1 c2 c3))), .int .i64 (clampI (quoI ((a2 * b3 - a3 * b2) * 2 ^ 64) (detI a1 a2 a3 b1 b2 b3 c1 c2 c3))), .int .i64 (clampI (quoI ((b3 * c1 - b1 * c3) * 2 ^ 64) (detI a1 a2 a3 b1 b2 b3 c1 c2 c3))), .int .i64 (clampI (quoI ((c3 * a1 - c1 * a3) * 2 ^ 64) (detI a1 a2 a3 b1 b2 b3 c1 c2 c3))), .int .i64 (clampI (quoI ((a3 * b1 - a1 * b3) * 2 ^ 64) (detI a1 a2 a3 b1 b2 b3 c1 c2 c3))), .int .i64 (clampI (quoI ((b1 * c2 - b2 * c1) * 2 ^ 64) (detI a1 a2 a3 b1 b2 b3 c1 c2 c3))), .int .i64 (clampI (quoI ((c1 * a2 - c2 * a1) * 2 ^ 64) (detI a1 a2 a3 b1 b2 b3 c1 c2 c3))), .int .i64 (clampI (quoI ((a1 * b2 - a2 * b1) * 2 ^ 64) (detI a1 a2 a3 b1 b2 b3 c1 c2 c3)))], .bool true]) else .fail
  | _ => .fail
@[simp] theorem r4invS_val {a1 a2 a3 b1 b2 b3 c1 c2 c3 : Int} (h : InI a1 ∧ InI a2 ∧ InI a3 ∧ InI b1 ∧ InI b2 ∧ InI b3 ∧ InI c1 ∧ InI c2 ∧ InI c3) : r4invS [.agg [.int .i64 a1, .int .i64 a2, .int .i64 a3, .int .i64 b1, .int .i64 b2, .int .i64 b3, .int .i64 c1, .int .i64 c2, .int .i64 c3]] = .val (if detI a1 a2 a3 b1 b2 b3 c1 c2 c3 = 0 then .tup [.agg [.int .i64 0, .int .i64 0, .int .i64 0, .int .i64 0, .int .i64 0, .int .i64 0, .int .i64 0, .int .i64 0, .int .i64 0], .bool false] else .tup [.agg [.int .i64 (clampI (quoI ((b2 * c3 - b3 * c2) * 2 ^ 64) (detI a1 a2 a3 b1 b2 b3 c1 c2 c3))), .int .i64 (clampI (quoI ((c2 * a3 - c3 * a2) * 2 ^ 64) (detI a1 a2 a3 b1 b2 b3 c1 c2 c3))), .int .i64 (clampI (quoI ((a2 * b3 - a3 * b2) * 2 ^ 64) (detI a1 a2 a3 b1 b2 b3 c1 c2 c3))), .int .i64 (clampI (quoI ((b3 * c1 - b1 * c3) * 2 ^ 64) (detI a1 a2 a3 b1 b2 b3 c1 c2 c3))), .int .i64 (clampI (quoI ((c3 * a1 - c1 * a3) * 2 ^ 64) (detI a1 a2 a3 b1 b2 b3 c1 c2 c3))), .int .i64 (clampI (quoI ((a3 * b1 - a1 * b3) * 2 ^ 64) (detI a1 a2 a3 b1 b2 b3 c1 c2 c3))), .int .i64 (clampI (quoI ((b1 * c2 - b2 * c1) * 2 ^ 64) (detI a1 a2 a3 b1 b2 b3 c1 c2 c3))), .int .i64 (clampI (quoI ((c1 * a2 - c2 * a1) * 2 ^ 64) (detI a1 a2 a3 b1 b2 b3 c1 c2 c3))), .int .i64 (clampI (quoI ((a1 * b2 - a2 * b1) * 2 ^ 64) (detI a1 a2 a3 b1 b2 b3 c1 c2 c3)))], .bool true]) := if_pos h
noncomputable def awake4S : List AV → PR
  | [] => .val (.bool true)
  | _ => .fail
@[simp] theorem awake4S_val : awake4S [] = .val (.bool true) := rfl
set_option maxHeartbeats 4000000 in
theorem awake4_ok : SumOk Try.prog 19 (pureS awake4S) := by
  refine sum_fn (L := fun _ => none) (n := 1) (S := stOf [(15, pureS mapplyS), (57, pureS mDetS), (56, pureS mdiagS), (55, pureS mInverseS), (20, pureS moneS), (58, pureS r4diagS)]) drawS Try.T_ok (stOf_ok (by simp [mapply_ok, mDet_ok, mdiag_ok, mInverse_ok, mone_ok, r4diag_ok])) Try.func19 rfl (by kernel_rfl) (by kernel_rfl) ?_
    (by intro args v h; unfold awake4S at h; split at h <;> (try split at h) <;> simp at h)
  intro args v h
  unfold awake4S at h
  split at h
  · skip
    cases h
    refine ⟨by simp, by simp, by simp, ?_⟩
    simp [Try.f19, detI, quoI, clampI, InI]
  · simp at h

noncomputable def lawMatDetS : List AV → PR
  | [.agg [.int .i64 a1, .int .i64 a2, .int .i64 a3, .int .i64 b1, .int .i64 b2, .int .i64 b3, .int .i64 c1, .int .i64 c2, .int .i64 c3]] => open Classical in if InI a1 ∧ InI a2 ∧ InI a3 ∧ InI b1 ∧ InI b2 ∧ InI b3 ∧ InI c1 ∧ InI c2 ∧ InI c3 then .val (.bool true) else .fail
  | _ => .fail
@[simp] theorem lawMatDetS_val {a1 a2 a3 b1 b2 b3 c1 c2 c3 : Int} (h : InI a1 ∧ InI a2 ∧ InI a3 ∧ InI b1 ∧ InI b2 ∧ InI b3 ∧ InI c1 ∧ InI c2 ∧ InI c3) : lawMatDetS [.agg [.int .i64 a1, .int .i64 a2, .int .i64 a3, .int .i64 b1, .int .i64 b2, .int .i64 b3, .int .i64 c1, .int .i64 c2, .int .i64 c3]] = .val (.bool true) := if_pos h
noncomputable def mSolveS : List AV → PR
  | [.agg [.int .i64 a1, .int .i64 a2, .int .i64 a3, .int .i64 b1, .int .i64 b2, .int .i64 b3, .int .i64 c1, .int .i64 c2, .int .i64 c3], .agg [.int .i64 x, .int .i64 y, .int .i64 z]] => open Classical in if InI a1 ∧ InI a2 ∧ InI a3 ∧ InI b1 ∧ InI b2 ∧ InI b3 ∧ InI c1 ∧ InI c2 ∧ InI c3 ∧ InI x ∧ InI y ∧ InI z then .val (if detI a1 a2 a3 b1 b2 b3 c1 c2 c3 = 0 then .tup [.agg [.int .i64 0, .int .i64 0, .int .i64 0], .bool false] else .tup [.agg [.int .i64 (clampI (quoI (detI x a2 a3 y b2 b3 z c2 c3 * 2 ^ 32) (detI a1 a2 a3 b1 b2 b3 c1 c2 c3))), .int .i64 (clampI (quoI (detI a1 x a3 b1 y b3 c1 z c3 * 2 ^ 32) (detI a1 a2 a3 b1 b2 b3 c1 c2 c3))), .int .i64 (clampI (quoI (detI a1 a2 x b1 b2 y c1 c2 z * 2 ^ 32) (detI a1 a2 a3 b1 b2 b3 c1 c2 c3)))], .bool true]) else .fail
  | _ => .fail
@[simp] theorem mSolveS_val {a1 a2 a3 b1 b2 b3 c1 c2 c3 x y z : Int} (h : InI a1 ∧ InI a2 ∧ InI a3 ∧ InI b1 ∧ InI b2 ∧ InI b3 ∧ InI c1 ∧ InI c2 ∧ InI c3 ∧ InI x ∧ InI y ∧ InI z) : mSolveS [.agg [.int .i64 a1, .int .i64 a2, .int .i64 a3, .int .i64 b1, .int .i64 b2, .int .i64 b3, .int .i64 c1, .int .i64 c2, .int .i64 c3], .agg [.int .i64 x, .int .i64 y, .int .i64 z]] = .val (if detI a1 a2 a3 b1 b2 b3 c1 c2 c3 = 0 then .tup [.agg [.int .i64 0, .int .i64 0, .int .i64 0], .bool false] else .tup [.agg [.int .i64 (clampI (quoI (detI x a2 a3 y b2 b3 z c2 c3 * 2 ^ 32) (detI a1 a2 a3 b1 b2 b3 c1 c2 c3))), .int .i64 (clampI (quoI (detI a1 x a3 b1 y b3 c1 z c3 * 2 ^ 32) (detI a1 a2 a3 b1 b2 b3 c1 c2 c3))), .int .i64 (clampI (quoI (detI a1 a2 x b1 b2 y c1 c2 z * 2 ^ 32) (detI a1 a2 a3 b1 b2 b3 c1 c2 c3)))], .bool true]) := if_pos h
noncomputable def lawMatInvS : List AV → PR
  | [.agg [.int .i64 a1, .int .i64 a2, .int .i64 a3, .int .i64 b1, .int .i64 b2, .int .i64 b3, .int .i64 c1, .int .i64 c2, .int .i64 c3], .agg [.int .i64 x, .int .i64 y, .int .i64 z]] => open Classical in if InI a1 ∧ InI a2 ∧ InI a3 ∧ InI b1 ∧ InI b2 ∧ InI b3 ∧ InI c1 ∧ InI c2 ∧ InI c3 ∧ InI x ∧ InI y ∧ InI z then .val (.bool true) else .fail
  | _ => .fail
@[simp] theorem lawMatInvS_val {a1 a2 a3 b1 b2 b3 c1 c2 c3 x y z : Int} (h : InI a1 ∧ InI a2 ∧ InI a3 ∧ InI b1 ∧ InI b2 ∧ InI b3 ∧ InI c1 ∧ InI c2 ∧ InI c3 ∧ InI x ∧ InI y ∧ InI z) : lawMatInvS [.agg [.int .i64 a1, .int .i64 a2, .int .i64 a3, .int .i64 b1, .int .i64 b2, .int .i64 b3, .int .i64 c1, .int .i64 c2, .int .i64 c3], .agg [.int .i64 x, .int .i64 y, .int .i64 z]] = .val (.bool true) := if_pos h
end Go.X
