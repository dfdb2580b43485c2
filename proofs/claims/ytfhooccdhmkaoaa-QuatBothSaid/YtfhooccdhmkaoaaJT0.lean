/- The product of matrices: the reference, and the laws. -/
import Derived.Test.YtfhooccdhmkaoaaJMG
import Derived.Test.YtfhooccdhmkaoaaJMY
namespace Go.X
open Go.Proofs
attribute [local irreducible] Good

theorem one_l {x : Int} (h : InI x) : clampI (4294967296 * x / 4294967296) = x := by
  rw [Int.mul_ediv_cancel_left _ (by decide)]; exact clampI_self h
theorem one_r {x : Int} (h : InI x) : clampI (x * 4294967296 / 4294967296) = x := by
  rw [Int.mul_ediv_cancel _ (by decide)]; exact clampI_self h

noncomputable def r4applyS : List AV → PR
  | [.agg [.int .i64 a1, .int .i64 a2, .int .i64 a3, .int .i64 b1, .int .i64 b2, .int .i64 b3, .int .i64 c1, .int .i64 c2, .int .i64 c3], .agg [.int .i64 x, .int .i64 y, .int .i64 z]] => open Classical in if InI a1 ∧ InI a2 ∧ InI a3 ∧ InI b1 ∧ InI b2 ∧ InI b3 ∧ InI c1 ∧ InI c2 ∧ InI c3 ∧ InI x ∧ InI y ∧ InI z then .val (.agg [.int .i64 (clampI ((a1 * x + a2 * y + a3 * z) / 2 ^ 32)), .int .i64 (clampI ((b1 * x + b2 * y + b3 * z) / 2 ^ 32)), .int .i64 (clampI ((c1 * x + c2 * y + c3 * z) / 2 ^ 32))]) else .fail
  | _ => .fail
@[simp] theorem r4applyS_val {a1 a2 a3 b1 b2 b3 c1 c2 c3 x y z : Int} (h : InI a1 ∧ InI a2 ∧ InI a3 ∧ InI b1 ∧ InI b2 ∧ InI b3 ∧ InI c1 ∧ InI c2 ∧ InI c3 ∧ InI x ∧ InI y ∧ InI z) : r4applyS [.agg [.int .i64 a1, .int .i64 a2, .int .i64 a3, .int .i64 b1, .int .i64 b2, .int .i64 b3, .int .i64 c1, .int .i64 c2, .int .i64 c3], .agg [.int .i64 x, .int .i64 y, .int .i64 z]] = .val (.agg [.int .i64 (clampI ((a1 * x + a2 * y + a3 * z) / 2 ^ 32)), .int .i64 (clampI ((b1 * x + b2 * y + b3 * z) / 2 ^ 32)), .int .i64 (clampI ((c1 * x + c2 * y + c3 * z) / 2 ^ 32))]) := if_pos h
set_option maxHeartbeats 4000000 in
theorem r4apply_ok : SumOk Try.prog 16 (pureS r4applyS) := by
  refine sum_fn (L := fun i => if i = 1 then some (.quiet 16) else none) (n := 1) (S := stOf [(51, pureS r3dotS)]) drawS Try.T_ok (stOf_ok (by simp [r3dot_ok])) Try.func16 rfl (by kernel_rfl) (by kernel_rfl) ?_
    (by intro args v h; unfold r4applyS at h; split at h <;> (try split at h) <;> simp at h)
  intro args v h
  unfold r4applyS at h
  split at h
  · rename_i a1 a2 a3 b1 b2 b3 c1 c2 c3 x y z
    split at h
    · rename_i hc
      obtain ⟨ha1, ha2, ha3, hb1, hb2, hb3, hc1, hc2, hc3, hx, hy, hz⟩ := hc
      cases h
      refine ⟨by simp, by simp, by simp, ?_⟩
      simp [Try.f16, ha1, ha2, ha3, hb1, hb2, hb3, hc1, hc2, hc3, hx, hy, hz]
    · simp at h
  · simp at h

noncomputable def r4mulS : List AV → PR
  | [.agg [.int .i64 a1, .int .i64 a2, .int .i64 a3, .int .i64 b1, .int .i64 b2, .int .i64 b3, .int .i64 c1, .int .i64 c2, .int .i64 c3], .agg [.int .i64 p1, .int .i64 p2, .int .i64 p3, .int .i64 q1, .int .i64 q2, .int .i64 q3, .int .i64 r1, .int .i64 r2, .int .i64 r3]] => open Classical in if InI a1 ∧ InI a2 ∧ InI a3 ∧ InI b1 ∧ InI b2 ∧ InI b3 ∧ InI c1 ∧ InI c2 ∧ InI c3 ∧ InI p1 ∧ InI p2 ∧ InI p3 ∧ InI q1 ∧ InI q2 ∧ InI q3 ∧ InI r1 ∧ InI r2 ∧ InI r3 then .val (.agg [.int .i64 (clampI ((p1 * a1 + q1 * a2 + r1 * a3) / 2 ^ 32)), .int .i64 (clampI ((p2 * a1 + q2 * a2 + r2 * a3) / 2 ^ 32)), .int .i64 (clampI ((p3 * a1 + q3 * a2 + r3 * a3) / 2 ^ 32)), .int .i64 (clampI ((p1 * b1 + q1 * b2 + r1 * b3) / 2 ^ 32)), .int .i64 (clampI ((p2 * b1 + q2 * b2 + r2 * b3) / 2 ^ 32)), .int .i64 (clampI ((p3 * b1 + q3 * b2 + r3 * b3) / 2 ^ 32)), .int .i64 (clampI ((p1 * c1 + q1 * c2 + r1 * c3) / 2 ^ 32)), .int .i64 (clampI ((p2 * c1 + q2 * c2 + r2 * c3) / 2 ^ 32)), .int .i64 (clampI ((p3 * c1 + q3 * c2 + r3 * c3) / 2 ^ 32))]) else .fail
  | _ => .fail
@[simp] theorem r4mulS_val {a1 a2 a3 b1 b2 b3 c1 c2 c3 p1 p2 p3 q1 q2 q3 r1 r2 r3 : Int} (h : InI a1 ∧ InI a2 ∧ InI a3 ∧ InI b1 ∧ InI b2 ∧ InI b3 ∧ InI c1 ∧ InI c2 ∧ InI c3 ∧ InI p1 ∧ InI p2 ∧ InI p3 ∧ InI q1 ∧ InI q2 ∧ InI q3 ∧ InI r1 ∧ InI r2 ∧ InI r3) : r4mulS [.agg [.int .i64 a1, .int .i64 a2, .int .i64 a3, .int .i64 b1, .int .i64 b2, .int .i64 b3, .int .i64 c1, .int .i64 c2, .int .i64 c3], .agg [.int .i64 p1, .int .i64 p2, .int .i64 p3, .int .i64 q1, .int .i64 q2, .int .i64 q3, .int .i64 r1, .int .i64 r2, .int .i64 r3]] = .val (.agg [.int .i64 (clampI ((p1 * a1 + q1 * a2 + r1 * a3) / 2 ^ 32)), .int .i64 (clampI ((p2 * a1 + q2 * a2 + r2 * a3) / 2 ^ 32)), .int .i64 (clampI ((p3 * a1 + q3 * a2 + r3 * a3) / 2 ^ 32)), .int .i64 (clampI ((p1 * b1 + q1 * b2 + r1 * b3) / 2 ^ 32)), .int .i64 (clampI ((p2 * b1 + q2 * b2 + r2 * b3) / 2 ^ 32)), .int .i64 (clampI ((p3 * b1 + q3 * b2 + r3 * b3) / 2 ^ 32)), .int .i64 (clampI ((p1 * c1 + q1 * c2 + r1 * c3) / 2 ^ 32)), .int .i64 (clampI ((p2 * c1 + q2 * c2 + r2 * c3) / 2 ^ 32)), .int .i64 (clampI ((p3 * c1 + q3 * c2 + r3 * c3) / 2 ^ 32))]) := if_pos h
set_option maxHeartbeats 4000000 in
theorem r4mul_ok : SumOk Try.prog 18 (pureS r4mulS) := by
  refine sum_fn (L := fun i => if i = 2 then some (.quiet 16) else none) (n := 1) (S := stOf [(16, pureS r4applyS), (54, pureS r4rowsS), (53, pureS r4turnedS)]) drawS Try.T_ok (stOf_ok (by simp [r4apply_ok, r4rows_ok, r4turned_ok])) Try.func18 rfl (by kernel_rfl) (by kernel_rfl) ?_
    (by intro args v h; unfold r4mulS at h; split at h <;> (try split at h) <;> simp at h)
  intro args v h
  unfold r4mulS at h
  split at h
  · rename_i a1 a2 a3 b1 b2 b3 c1 c2 c3 p1 p2 p3 q1 q2 q3 r1 r2 r3
    split at h
    · rename_i hc
      obtain ⟨ha1, ha2, ha3, hb1, hb2, hb3, hc1, hc2, hc3, hp1, hp2, hp3, hq1, hq2, hq3, hr1, hr2, hr3⟩ := hc
      cases h
      refine ⟨by simp, by simp, by simp, ?_⟩
      simp [Try.f18, ha1, ha2, ha3, hb1, hb2, hb3, hc1, hc2, hc3, hp1, hp2, hp3, hq1, hq2, hq3, hr1, hr2, hr3]
    · simp at h
  · simp at h

noncomputable def lawMatMulS : List AV → PR
  | [.agg [.int .i64 a1, .int .i64 a2, .int .i64 a3, .int .i64 b1, .int .i64 b2, .int .i64 b3, .int .i64 c1, .int .i64 c2, .int .i64 c3], .agg [.int .i64 p1, .int .i64 p2, .int .i64 p3, .int .i64 q1, .int .i64 q2, .int .i64 q3, .int .i64 r1, .int .i64 r2, .int .i64 r3], .agg [.int .i64 x, .int .i64 y, .int .i64 z]] => open Classical in if InI a1 ∧ InI a2 ∧ InI a3 ∧ InI b1 ∧ InI b2 ∧ InI b3 ∧ InI c1 ∧ InI c2 ∧ InI c3 ∧ InI p1 ∧ InI p2 ∧ InI p3 ∧ InI q1 ∧ InI q2 ∧ InI q3 ∧ InI r1 ∧ InI r2 ∧ InI r3 ∧ InI x ∧ InI y ∧ InI z then .val (.bool true) else .fail
  | _ => .fail
@[simp] theorem lawMatMulS_val {a1 a2 a3 b1 b2 b3 c1 c2 c3 p1 p2 p3 q1 q2 q3 r1 r2 r3 x y z : Int} (h : InI a1 ∧ InI a2 ∧ InI a3 ∧ InI b1 ∧ InI b2 ∧ InI b3 ∧ InI c1 ∧ InI c2 ∧ InI c3 ∧ InI p1 ∧ InI p2 ∧ InI p3 ∧ InI q1 ∧ InI q2 ∧ InI q3 ∧ InI r1 ∧ InI r2 ∧ InI r3 ∧ InI x ∧ InI y ∧ InI z) : lawMatMulS [.agg [.int .i64 a1, .int .i64 a2, .int .i64 a3, .int .i64 b1, .int .i64 b2, .int .i64 b3, .int .i64 c1, .int .i64 c2, .int .i64 c3], .agg [.int .i64 p1, .int .i64 p2, .int .i64 p3, .int .i64 q1, .int .i64 q2, .int .i64 q3, .int .i64 r1, .int .i64 r2, .int .i64 r3], .agg [.int .i64 x, .int .i64 y, .int .i64 z]] = .val (.bool true) := if_pos h
set_option maxHeartbeats 4000000 in
theorem lawMatMul_ok : SumOk Try.prog 3 (pureS lawMatMulS) := by
  refine sum_fn (L := fun _ => none) (n := 1) (S := stOf [(15, pureS mapplyS), (17, pureS mMulS), (19, pureS awake4S), (16, pureS r4applyS), (18, pureS r4mulS)]) drawS Try.T_ok (stOf_ok (by simp [mapply_ok, mMul_ok, awake4_ok, r4apply_ok, r4mul_ok])) Try.func3 rfl (by kernel_rfl) (by kernel_rfl) ?_
    (by intro args v h; unfold lawMatMulS at h; split at h <;> (try split at h) <;> simp at h)
  intro args v h
  unfold lawMatMulS at h
  split at h
  · rename_i a1 a2 a3 b1 b2 b3 c1 c2 c3 p1 p2 p3 q1 q2 q3 r1 r2 r3 x y z
    split at h
    · rename_i hc
      obtain ⟨ha1, ha2, ha3, hb1, hb2, hb3, hc1, hc2, hc3, hp1, hp2, hp3, hq1, hq2, hq3, hr1, hr2, hr3, hx, hy, hz⟩ := hc
      cases h
      refine ⟨by simp, by simp, by simp, ?_⟩
      simp [Try.f3, ha1, ha2, ha3, hb1, hb2, hb3, hc1, hc2, hc3, hp1, hp2, hp3, hq1, hq2, hq3, hr1, hr2, hr3, hx, hy, hz, Int.mul_comm]
    · simp at h
  · simp at h

noncomputable def lawMatOneS : List AV → PR
  | [.agg [.int .i64 a1, .int .i64 a2, .int .i64 a3, .int .i64 b1, .int .i64 b2, .int .i64 b3, .int .i64 c1, .int .i64 c2, .int .i64 c3], .agg [.int .i64 x, .int .i64 y, .int .i64 z]] => open Classical in if InI a1 ∧ InI a2 ∧ InI a3 ∧ InI b1 ∧ InI b2 ∧ InI b3 ∧ InI c1 ∧ InI c2 ∧ InI c3 ∧ InI x ∧ InI y ∧ InI z then .val (.bool true) else .fail
  | _ => .fail
@[simp] theorem lawMatOneS_val {a1 a2 a3 b1 b2 b3 c1 c2 c3 x y z : Int} (h : InI a1 ∧ InI a2 ∧ InI a3 ∧ InI b1 ∧ InI b2 ∧ InI b3 ∧ InI c1 ∧ InI c2 ∧ InI c3 ∧ InI x ∧ InI y ∧ InI z) : lawMatOneS [.agg [.int .i64 a1, .int .i64 a2, .int .i64 a3, .int .i64 b1, .int .i64 b2, .int .i64 b3, .int .i64 c1, .int .i64 c2, .int .i64 c3], .agg [.int .i64 x, .int .i64 y, .int .i64 z]] = .val (.bool true) := if_pos h
set_option maxHeartbeats 4000000 in
theorem lawMatOne_ok : SumOk Try.prog 4 (pureS lawMatOneS) := by
  refine sum_fn (L := fun _ => none) (n := 1) (S := stOf [(15, pureS mapplyS), (17, pureS mMulS), (20, pureS moneS), (21, pureS mturnedS), (19, pureS awake4S)]) drawS Try.T_ok (stOf_ok (by simp [mapply_ok, mMul_ok, mone_ok, mturned_ok, awake4_ok])) Try.func4 rfl (by kernel_rfl) (by kernel_rfl) ?_
    (by intro args v h; unfold lawMatOneS at h; split at h <;> (try split at h) <;> simp at h)
  intro args v h
  unfold lawMatOneS at h
  split at h
  · rename_i a1 a2 a3 b1 b2 b3 c1 c2 c3 x y z
    split at h
    · rename_i hc
      obtain ⟨ha1, ha2, ha3, hb1, hb2, hb3, hc1, hc2, hc3, hx, hy, hz⟩ := hc
      cases h
      refine ⟨by simp, by simp, by simp, ?_⟩
      have o1 : InI 4294967296 := by decide
      have o0 : InI 0 := by decide
      simp [Try.f4, ha1, ha2, ha3, hb1, hb2, hb3, hc1, hc2, hc3, hx, hy, hz, o0, o1, clampI_self ha1, clampI_self ha2, clampI_self ha3, clampI_self hb1, clampI_self hb2, clampI_self hb3, clampI_self hc1, clampI_self hc2, clampI_self hc3, clampI_self hx, clampI_self hy, clampI_self hz]
    · simp at h
  · simp at h

noncomputable def lawMatTurnedS : List AV → PR
  | [.agg [.int .i64 a1, .int .i64 a2, .int .i64 a3, .int .i64 b1, .int .i64 b2, .int .i64 b3, .int .i64 c1, .int .i64 c2, .int .i64 c3], .agg [.int .i64 p1, .int .i64 p2, .int .i64 p3, .int .i64 q1, .int .i64 q2, .int .i64 q3, .int .i64 r1, .int .i64 r2, .int .i64 r3], .agg [.int .i64 x, .int .i64 y, .int .i64 z]] => open Classical in if InI a1 ∧ InI a2 ∧ InI a3 ∧ InI b1 ∧ InI b2 ∧ InI b3 ∧ InI c1 ∧ InI c2 ∧ InI c3 ∧ InI p1 ∧ InI p2 ∧ InI p3 ∧ InI q1 ∧ InI q2 ∧ InI q3 ∧ InI r1 ∧ InI r2 ∧ InI r3 ∧ InI x ∧ InI y ∧ InI z then .val (.bool true) else .fail
  | _ => .fail
@[simp] theorem lawMatTurnedS_val {a1 a2 a3 b1 b2 b3 c1 c2 c3 p1 p2 p3 q1 q2 q3 r1 r2 r3 x y z : Int} (h : InI a1 ∧ InI a2 ∧ InI a3 ∧ InI b1 ∧ InI b2 ∧ InI b3 ∧ InI c1 ∧ InI c2 ∧ InI c3 ∧ InI p1 ∧ InI p2 ∧ InI p3 ∧ InI q1 ∧ InI q2 ∧ InI q3 ∧ InI r1 ∧ InI r2 ∧ InI r3 ∧ InI x ∧ InI y ∧ InI z) : lawMatTurnedS [.agg [.int .i64 a1, .int .i64 a2, .int .i64 a3, .int .i64 b1, .int .i64 b2, .int .i64 b3, .int .i64 c1, .int .i64 c2, .int .i64 c3], .agg [.int .i64 p1, .int .i64 p2, .int .i64 p3, .int .i64 q1, .int .i64 q2, .int .i64 q3, .int .i64 r1, .int .i64 r2, .int .i64 r3], .agg [.int .i64 x, .int .i64 y, .int .i64 z]] = .val (.bool true) := if_pos h
set_option maxHeartbeats 4000000 in
theorem lawMatTurned_ok : SumOk Try.prog 5 (pureS lawMatTurnedS) := by
  refine sum_fn (L := fun _ => none) (n := 1) (S := stOf [(22, pureS mBtwS), (17, pureS mMulS), (21, pureS mturnedS), (19, pureS awake4S)]) drawS Try.T_ok (stOf_ok (by simp [mBtw_ok, mMul_ok, mturned_ok, awake4_ok])) Try.func5 rfl (by kernel_rfl) (by kernel_rfl) ?_
    (by intro args v h; unfold lawMatTurnedS at h; split at h <;> (try split at h) <;> simp at h)
  intro args v h
  unfold lawMatTurnedS at h
  split at h
  · rename_i a1 a2 a3 b1 b2 b3 c1 c2 c3 p1 p2 p3 q1 q2 q3 r1 r2 r3 x y z
    split at h
    · rename_i hc
      obtain ⟨ha1, ha2, ha3, hb1, hb2, hb3, hc1, hc2, hc3, hp1, hp2, hp3, hq1, hq2, hq3, hr1, hr2, hr3, hx, hy, hz⟩ := hc
      cases h
      refine ⟨by simp, by simp, by simp, ?_⟩
      simp [Try.f5, ha1, ha2, ha3, hb1, hb2, hb3, hc1, hc2, hc3, hp1, hp2, hp3, hq1, hq2, hq3, hr1, hr2, hr3, hx, hy, hz, Int.mul_comm, Int.mul_left_comm]
    · simp at h
  · simp at h

end Go.X
