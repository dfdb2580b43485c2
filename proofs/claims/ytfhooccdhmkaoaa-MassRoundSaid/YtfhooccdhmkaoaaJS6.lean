/- Masses and moments: of shapes without a list; the laws that need no more. -/
import Derived.Test.YtfhooccdhmkaoaaJS3
import Derived.Test.YtfhooccdhmkaoaaJS5
namespace Go.X
open Go.Proofs
attribute [local irreducible] Good

noncomputable def mOfNS : List AV → PR
  | [.agg [.int .i64 kd, .int .i64 r, .int .i64 x, .int .i64 y, .int .i64 z, .nilslice], .int .i64 m] => open Classical in if InI kd ∧ InI r ∧ InI x ∧ InI y ∧ InI z ∧ InI m then .val (if OkN kd r x y z ∧ 16777216 ≤ m ∧ m ≤ 4503599627370496 then .tup [.agg [.int .i64 m, .int .i64 (momI m (y + r) (z + r)), .int .i64 (momI m (x + r) (z + r)), .int .i64 (momI m (x + r) (y + r))], .int .i64 0] else .tup [.agg [.int .i64 0, .int .i64 0, .int .i64 0, .int .i64 0], .int .i64 2]) else .fail
  | _ => .fail
@[simp] theorem mOfNS_val {kd r x y z m : Int} (h : InI kd ∧ InI r ∧ InI x ∧ InI y ∧ InI z ∧ InI m) : mOfNS [.agg [.int .i64 kd, .int .i64 r, .int .i64 x, .int .i64 y, .int .i64 z, .nilslice], .int .i64 m] = .val (if OkN kd r x y z ∧ 16777216 ≤ m ∧ m ≤ 4503599627370496 then .tup [.agg [.int .i64 m, .int .i64 (momI m (y + r) (z + r)), .int .i64 (momI m (x + r) (z + r)), .int .i64 (momI m (x + r) (y + r))], .int .i64 0] else .tup [.agg [.int .i64 0, .int .i64 0, .int .i64 0, .int .i64 0], .int .i64 2]) := if_pos h
set_option maxHeartbeats 40000000 in
theorem mOfN_ok : SumOk Try.prog 44 (pureS mOfNS) := by
  refine sum_fn (L := fun i => if i = 8 then some (.quiet 21) else none) (n := 1) (S := stOf [(98, mmomS), (30, pureS halfNS)]) drawS Try.T_ok (stOf_ok (by simp [mmom_ok, halfN_ok])) Try.func44 rfl (by kernel_rfl) (by kernel_rfl) ?_
    (by intro args v h; unfold mOfNS at h; split at h <;> (try split at h) <;> simp at h)
  intro args v h
  unfold mOfNS at h
  split at h
  · rename_i kd r x y z m
    split at h
    · rename_i hc
      obtain ⟨hkd, hr, hx, hy, hz, hm⟩ := hc
      cases h
      refine ⟨by simp, by (split <;> simp), by (split <;> simp), ?_⟩
      by_cases ok : OkN kd r x y z
      · obtain ⟨hk, r0, r1, hs⟩ := may_in ok
        obtain ⟨sx, sy, sz⟩ := id hs
        have ix : InI (x + r) := by unfold InI; omega
        have iy : InI (y + r) := by unfold InI; omega
        have iz : InI (z + r) := by unfold InI; omega
        by_cases l1 : 16777216 ≤ m
        · have l1' : ¬ m < 16777216 := by omega
          by_cases l2 : m ≤ 4503599627370496
          · have l2' : ¬ 4503599627370496 < m := by omega
            simp (maxSteps := 10000000) [hkd, hr, hx, hy, hz, hm, mmomS, Try.f44, ok, l1, l2, l1', l2', ix, iy, iz]
          · have l2' : 4503599627370496 < m := by omega
            simp (maxSteps := 10000000) [hkd, hr, hx, hy, hz, Try.f44, ok, l1, l2, l1', l2']
        · have l1' : m < 16777216 := by omega
          simp (maxSteps := 10000000) [hkd, hr, hx, hy, hz, Try.f44, ok, l1, l1']
      · simp (maxSteps := 10000000) [hkd, hr, hx, hy, hz, Try.f44, ok]
    · simp at h
  · simp at h

noncomputable def awake10S : List AV → PR
  | [] => .val (.bool true)
  | _ => .fail
@[simp] theorem awake10S_val : awake10S [] = .val (.bool true) := rfl
set_option maxHeartbeats 40000000 in
set_option maxRecDepth 100000 in
theorem awake10_ok : SumOk Try.prog 43 (pureS awake10S) := by
  refine sum_fn (L := fun _ => none) (n := 1) (S := stOf [(46, pureS mBackS), (44, pureS mOfNS)]) drawS Try.T_ok (stOf_ok (by simp [mBack_ok, mOfN_ok])) Try.func43 rfl (by kernel_rfl) (by kernel_rfl) ?_
    (by intro args v h; unfold awake10S at h; split at h <;> (try split at h) <;> simp at h)
  intro args v h
  unfold awake10S at h
  split at h
  · skip
    cases h
    refine ⟨by simp, by simp, by simp, ?_⟩
    have ok : OkN 3 0 4294967296 4294967296 4294967296 := by unfold OkN MayN May3 Size3 min3; decide
    have i1 : InI 4294967296 := by decide
    have i2 : InI 12884901888 := by decide
    have i3 : InI 0 := by decide
    have i4 : InI 3 := by decide
    have i5 : InI 8589934592 := by decide
    have i6 : InI 17179869184 := by decide
    have i7 : InI 2147483648 := by decide
    have m1 : momI 12884901888 4294967296 4294967296 = 8589934592 := by decide +kernel
    have b1 : backI 8589934592 = 2147483648 := by decide +kernel
    have b2 : backI 17179869184 = 1073741824 := by decide +kernel
    have b3 : backI 0 = 0 := by decide +kernel
    have b4 : backI 2147483648 = 8589934592 := by decide +kernel
    simp (maxSteps := 10000000) [Try.f43, ok, i1, i2, i3, i4, i5, i6, i7, m1, b1, b2, b3, b4]
  · simp at h

noncomputable def lawOnce10S : List AV → PR
  | [.agg [.int .i64 b0, .int .i64 b1, .int .i64 b2, .int .i64 b3]] => open Classical in if InI b0 ∧ InI b1 ∧ InI b2 ∧ InI b3 then .val (.bool true) else .fail
  | _ => .fail
@[simp] theorem lawOnce10S_val {b0 b1 b2 b3 : Int} (h : InI b0 ∧ InI b1 ∧ InI b2 ∧ InI b3) : lawOnce10S [.agg [.int .i64 b0, .int .i64 b1, .int .i64 b2, .int .i64 b3]] = .val (.bool true) := if_pos h
set_option maxHeartbeats 4000000 in
theorem lawOnce10_ok : SumOk Try.prog 13 (pureS lawOnce10S) := by
  refine sum_fn (L := fun _ => none) (n := 1) (S := stOf [(46, pureS mBackS), (43, pureS awake10S), (47, pureS once10S)]) drawS Try.T_ok (stOf_ok (by simp [mBack_ok, awake10_ok, once10_ok])) Try.func13 rfl (by kernel_rfl) (by kernel_rfl) ?_
    (by intro args v h; unfold lawOnce10S at h; split at h <;> (try split at h) <;> simp at h)
  intro args v h
  unfold lawOnce10S at h
  split at h
  · rename_i b0 b1 b2 b3
    split at h
    · rename_i hc
      obtain ⟨hb0, hb1, hb2, hb3⟩ := hc
      cases h
      refine ⟨by simp, by simp, by simp, ?_⟩
      simp [Try.f13, hb0, hb1, hb2, hb3, backI_in]
    · simp at h
  · simp at h

noncomputable def mTurnS : List AV → PR
  | [.agg [.int .i64 x, .int .i64 y, .int .i64 z], .agg [.int .i64 q0, .int .i64 q1, .int .i64 q2, .int .i64 q3]] => open Classical in if InI x ∧ InI y ∧ InI z ∧ InI q0 ∧ InI q1 ∧ InI q2 ∧ InI q3 then .val (if TurnP q0 q1 q2 q3 then .tup [.agg [.int .i64 (clampI ((clampI (quoI (r00 q0 q1 q2 q3 * 4294967296) (sq4 q0 q1 q2 q3)) * x * clampI (quoI (r00 q0 q1 q2 q3 * 4294967296) (sq4 q0 q1 q2 q3)) + clampI (quoI (r01 q0 q1 q2 q3 * 4294967296) (sq4 q0 q1 q2 q3)) * y * clampI (quoI (r01 q0 q1 q2 q3 * 4294967296) (sq4 q0 q1 q2 q3)) + clampI (quoI (r02 q0 q1 q2 q3 * 4294967296) (sq4 q0 q1 q2 q3)) * z * clampI (quoI (r02 q0 q1 q2 q3 * 4294967296) (sq4 q0 q1 q2 q3))) / 18446744073709551616)), .int .i64 (clampI ((clampI (quoI (r00 q0 q1 q2 q3 * 4294967296) (sq4 q0 q1 q2 q3)) * x * clampI (quoI (r10 q0 q1 q2 q3 * 4294967296) (sq4 q0 q1 q2 q3)) + clampI (quoI (r01 q0 q1 q2 q3 * 4294967296) (sq4 q0 q1 q2 q3)) * y * clampI (quoI (r11 q0 q1 q2 q3 * 4294967296) (sq4 q0 q1 q2 q3)) + clampI (quoI (r02 q0 q1 q2 q3 * 4294967296) (sq4 q0 q1 q2 q3)) * z * clampI (quoI (r12 q0 q1 q2 q3 * 4294967296) (sq4 q0 q1 q2 q3))) / 18446744073709551616)), .int .i64 (clampI ((clampI (quoI (r00 q0 q1 q2 q3 * 4294967296) (sq4 q0 q1 q2 q3)) * x * clampI (quoI (r20 q0 q1 q2 q3 * 4294967296) (sq4 q0 q1 q2 q3)) + clampI (quoI (r01 q0 q1 q2 q3 * 4294967296) (sq4 q0 q1 q2 q3)) * y * clampI (quoI (r21 q0 q1 q2 q3 * 4294967296) (sq4 q0 q1 q2 q3)) + clampI (quoI (r02 q0 q1 q2 q3 * 4294967296) (sq4 q0 q1 q2 q3)) * z * clampI (quoI (r22 q0 q1 q2 q3 * 4294967296) (sq4 q0 q1 q2 q3))) / 18446744073709551616)), .int .i64 (clampI ((clampI (quoI (r10 q0 q1 q2 q3 * 4294967296) (sq4 q0 q1 q2 q3)) * x * clampI (quoI (r00 q0 q1 q2 q3 * 4294967296) (sq4 q0 q1 q2 q3)) + clampI (quoI (r11 q0 q1 q2 q3 * 4294967296) (sq4 q0 q1 q2 q3)) * y * clampI (quoI (r01 q0 q1 q2 q3 * 4294967296) (sq4 q0 q1 q2 q3)) + clampI (quoI (r12 q0 q1 q2 q3 * 4294967296) (sq4 q0 q1 q2 q3)) * z * clampI (quoI (r02 q0 q1 q2 q3 * 4294967296) (sq4 q0 q1 q2 q3))) / 18446744073709551616)), .int .i64 (clampI ((clampI (quoI (r10 q0 q1 q2 q3 * 4294967296) (sq4 q0 q1 q2 q3)) * x * clampI (quoI (r10 q0 q1 q2 q3 * 4294967296) (sq4 q0 q1 q2 q3)) + clampI (quoI (r11 q0 q1 q2 q3 * 4294967296) (sq4 q0 q1 q2 q3)) * y * clampI (quoI (r11 q0 q1 q2 q3 * 4294967296) (sq4 q0 q1 q2 q3)) + clampI (quoI (r12 q0 q1 q2 q3 * 4294967296) (sq4 q0 q1 q2 q3)) * z * clampI (quoI (r12 q0 q1 q2 q3 * 4294967296) (sq4 q0 q1 q2 q3))) / 18446744073709551616)), .int .i64 (clampI ((clampI (quoI (r10 q0 q1 q2 q3 * 4294967296) (sq4 q0 q1 q2 q3)) * x * clampI (quoI (r20 q0 q1 q2 q3 * 4294967296) (sq4 q0 q1 q2 q3)) + clampI (quoI (r11 q0 q1 q2 q3 * 4294967296) (sq4 q0 q1 q2 q3)) * y * clampI (quoI (r21 q0 q1 q2 q3 * 4294967296) (sq4 q0 q1 q2 q3)) + clampI (quoI (r12 q0 q1 q2 q3 * 4294967296) (sq4 q0 q1 q2 q3)) * z * clampI (quoI (r22 q0 q1 q2 q3 * 4294967296) (sq4 q0 q1 q2 q3))) / 18446744073709551616)), .int .i64 (clampI ((clampI (quoI (r20 q0 q1 q2 q3 * 4294967296) (sq4 q0 q1 q2 q3)) * x * clampI (quoI (r00 q0 q1 q2 q3 * 4294967296) (sq4 q0 q1 q2 q3)) + clampI (quoI (r21 q0 q1 q2 q3 * 4294967296) (sq4 q0 q1 q2 q3)) * y * clampI (quoI (r01 q0 q1 q2 q3 * 4294967296) (sq4 q0 q1 q2 q3)) + clampI (quoI (r22 q0 q1 q2 q3 * 4294967296) (sq4 q0 q1 q2 q3)) * z * clampI (quoI (r02 q0 q1 q2 q3 * 4294967296) (sq4 q0 q1 q2 q3))) / 18446744073709551616)), .int .i64 (clampI ((clampI (quoI (r20 q0 q1 q2 q3 * 4294967296) (sq4 q0 q1 q2 q3)) * x * clampI (quoI (r10 q0 q1 q2 q3 * 4294967296) (sq4 q0 q1 q2 q3)) + clampI (quoI (r21 q0 q1 q2 q3 * 4294967296) (sq4 q0 q1 q2 q3)) * y * clampI (quoI (r11 q0 q1 q2 q3 * 4294967296) (sq4 q0 q1 q2 q3)) + clampI (quoI (r22 q0 q1 q2 q3 * 4294967296) (sq4 q0 q1 q2 q3)) * z * clampI (quoI (r12 q0 q1 q2 q3 * 4294967296) (sq4 q0 q1 q2 q3))) / 18446744073709551616)), .int .i64 (clampI ((clampI (quoI (r20 q0 q1 q2 q3 * 4294967296) (sq4 q0 q1 q2 q3)) * x * clampI (quoI (r20 q0 q1 q2 q3 * 4294967296) (sq4 q0 q1 q2 q3)) + clampI (quoI (r21 q0 q1 q2 q3 * 4294967296) (sq4 q0 q1 q2 q3)) * y * clampI (quoI (r21 q0 q1 q2 q3 * 4294967296) (sq4 q0 q1 q2 q3)) + clampI (quoI (r22 q0 q1 q2 q3 * 4294967296) (sq4 q0 q1 q2 q3)) * z * clampI (quoI (r22 q0 q1 q2 q3 * 4294967296) (sq4 q0 q1 q2 q3))) / 18446744073709551616))], .int .i64 0] else .tup [.agg [.int .i64 0, .int .i64 0, .int .i64 0, .int .i64 0, .int .i64 0, .int .i64 0, .int .i64 0, .int .i64 0, .int .i64 0], .int .i64 9]) else .fail
  | _ => .fail
@[simp] theorem mTurnS_val {x y z q0 q1 q2 q3 : Int} (h : InI x ∧ InI y ∧ InI z ∧ InI q0 ∧ InI q1 ∧ InI q2 ∧ InI q3) : mTurnS [.agg [.int .i64 x, .int .i64 y, .int .i64 z], .agg [.int .i64 q0, .int .i64 q1, .int .i64 q2, .int .i64 q3]] = .val (if TurnP q0 q1 q2 q3 then .tup [.agg [.int .i64 (clampI ((clampI (quoI (r00 q0 q1 q2 q3 * 4294967296) (sq4 q0 q1 q2 q3)) * x * clampI (quoI (r00 q0 q1 q2 q3 * 4294967296) (sq4 q0 q1 q2 q3)) + clampI (quoI (r01 q0 q1 q2 q3 * 4294967296) (sq4 q0 q1 q2 q3)) * y * clampI (quoI (r01 q0 q1 q2 q3 * 4294967296) (sq4 q0 q1 q2 q3)) + clampI (quoI (r02 q0 q1 q2 q3 * 4294967296) (sq4 q0 q1 q2 q3)) * z * clampI (quoI (r02 q0 q1 q2 q3 * 4294967296) (sq4 q0 q1 q2 q3))) / 18446744073709551616)), .int .i64 (clampI ((clampI (quoI (r00 q0 q1 q2 q3 * 4294967296) (sq4 q0 q1 q2 q3)) * x * clampI (quoI (r10 q0 q1 q2 q3 * 4294967296) (sq4 q0 q1 q2 q3)) + clampI (quoI (r01 q0 q1 q2 q3 * 4294967296) (sq4 q0 q1 q2 q3)) * y * clampI (quoI (r11 q0 q1 q2 q3 * 4294967296) (sq4 q0 q1 q2 q3)) + clampI (quoI (r02 q0 q1 q2 q3 * 4294967296) (sq4 q0 q1 q2 q3)) * z * clampI (quoI (r12 q0 q1 q2 q3 * 4294967296) (sq4 q0 q1 q2 q3))) / 18446744073709551616)), .int .i64 (clampI ((clampI (quoI (r00 q0 q1 q2 q3 * 4294967296) (sq4 q0 q1 q2 q3)) * x * clampI (quoI (r20 q0 q1 q2 q3 * 4294967296) (sq4 q0 q1 q2 q3)) + clampI (quoI (r01 q0 q1 q2 q3 * 4294967296) (sq4 q0 q1 q2 q3)) * y * clampI (quoI (r21 q0 q1 q2 q3 * 4294967296) (sq4 q0 q1 q2 q3)) + clampI (quoI (r02 q0 q1 q2 q3 * 4294967296) (sq4 q0 q1 q2 q3)) * z * clampI (quoI (r22 q0 q1 q2 q3 * 4294967296) (sq4 q0 q1 q2 q3))) / 18446744073709551616)), .int .i64 (clampI ((clampI (quoI (r10 q0 q1 q2 q3 * 4294967296) (sq4 q0 q1 q2 q3)) * x * clampI (quoI (r00 q0 q1 q2 q3 * 4294967296) (sq4 q0 q1 q2 q3)) + clampI (quoI (r11 q0 q1 q2 q3 * 4294967296) (sq4 q0 q1 q2 q3)) * y * clampI (quoI (r01 q0 q1 q2 q3 * 4294967296) (sq4 q0 q1 q2 q3)) + clampI (quoI (r12 q0 q1 q2 q3 * 4294967296) (sq4 q0 q1 q2 q3)) * z * clampI (quoI (r02 q0 q1 q2 q3 * 4294967296) (sq4 q0 q1 q2 q3))) / 18446744073709551616)), .int .i64 (clampI ((clampI (quoI (r10 q0 q1 q2 q3 * 4294967296) (sq4 q0 q1 q2 q3)) * x * clampI (quoI (r10 q0 q1 q2 q3 * 4294967296) (sq4 q0 q1 q2 q3)) + clampI (quoI (r11 q0 q1 q2 q3 * 4294967296) (sq4 q0 q1 q2 q3)) * y * clampI (quoI (r11 q0 q1 q2 q3 * 4294967296) (sq4 q0 q1 q2 q3)) + clampI (quoI (r12 q0 q1 q2 q3 * 4294967296) (sq4 q0 q1 q2 q3)) * z * clampI (quoI (r12 q0 q1 q2 q3 * 4294967296) (sq4 q0 q1 q2 q3))) / 18446744073709551616)), .int .i64 (clampI ((clampI (quoI (r10 q0 q1 q2 q3 * 4294967296) (sq4 q0 q1 q2 q3)) * x * clampI (quoI (r20 q0 q1 q2 q3 * 4294967296) (sq4 q0 q1 q2 q3)) + clampI (quoI (r11 q0 q1 q2 q3 * 4294967296) (sq4 q0 q1 q2 q3)) * y * clampI (quoI (r21 q0 q1 q2 q3 * 4294967296) (sq4 q0 q1 q2 q3)) + clampI (quoI (r12 q0 q1 q2 q3 * 4294967296) (sq4 q0 q1 q2 q3)) * z * clampI (quoI (r22 q0 q1 q2 q3 * 4294967296) (sq4 q0 q1 q2 q3))) / 18446744073709551616)), .int .i64 (clampI ((clampI (quoI (r20 q0 q1 q2 q3 * 4294967296) (sq4 q0 q1 q2 q3)) * x * clampI (quoI (r00 q0 q1 q2 q3 * 4294967296) (sq4 q0 q1 q2 q3)) + clampI (quoI (r21 q0 q1 q2 q3 * 4294967296) (sq4 q0 q1 q2 q3)) * y * clampI (quoI (r01 q0 q1 q2 q3 * 4294967296) (sq4 q0 q1 q2 q3)) + clampI (quoI (r22 q0 q1 q2 q3 * 4294967296) (sq4 q0 q1 q2 q3)) * z * clampI (quoI (r02 q0 q1 q2 q3 * 4294967296) (sq4 q0 q1 q2 q3))) / 18446744073709551616)), .int .i64 (clampI ((clampI (quoI (r20 q0 q1 q2 q3 * 4294967296) (sq4 q0 q1 q2 q3)) * x * clampI (quoI (r10 q0 q1 q2 q3 * 4294967296) (sq4 q0 q1 q2 q3)) + clampI (quoI (r21 q0 q1 q2 q3 * 4294967296) (sq4 q0 q1 q2 q3)) * y * clampI (quoI (r11 q0 q1 q2 q3 * 4294967296) (sq4 q0 q1 q2 q3)) + clampI (quoI (r22 q0 q1 q2 q3 * 4294967296) (sq4 q0 q1 q2 q3)) * z * clampI (quoI (r12 q0 q1 q2 q3 * 4294967296) (sq4 q0 q1 q2 q3))) / 18446744073709551616)), .int .i64 (clampI ((clampI (quoI (r20 q0 q1 q2 q3 * 4294967296) (sq4 q0 q1 q2 q3)) * x * clampI (quoI (r20 q0 q1 q2 q3 * 4294967296) (sq4 q0 q1 q2 q3)) + clampI (quoI (r21 q0 q1 q2 q3 * 4294967296) (sq4 q0 q1 q2 q3)) * y * clampI (quoI (r21 q0 q1 q2 q3 * 4294967296) (sq4 q0 q1 q2 q3)) + clampI (quoI (r22 q0 q1 q2 q3 * 4294967296) (sq4 q0 q1 q2 q3)) * z * clampI (quoI (r22 q0 q1 q2 q3 * 4294967296) (sq4 q0 q1 q2 q3))) / 18446744073709551616))], .int .i64 0] else .tup [.agg [.int .i64 0, .int .i64 0, .int .i64 0, .int .i64 0, .int .i64 0, .int .i64 0, .int .i64 0, .int .i64 0, .int .i64 0], .int .i64 9]) := if_pos h
set_option maxHeartbeats 40000000 in
theorem mTurn_ok : SumOk Try.prog 48 (pureS mTurnS) := by
  refine sum_fn (L := fun _ => none) (n := 1) (S := stOf [(25, pureS qMatrixS), (22, pureS mBtwS)]) drawS Try.T_ok (stOf_ok (by simp [qMatrix_ok, mBtw_ok])) Try.func48 rfl (by kernel_rfl) (by kernel_rfl) ?_
    (by intro args v h; unfold mTurnS at h; split at h <;> (try split at h) <;> simp at h)
  intro args v h
  unfold mTurnS at h
  split at h
  · rename_i x y z q0 q1 q2 q3
    split at h
    · rename_i hc
      obtain ⟨hx, hy, hz, hq0, hq1, hq2, hq3⟩ := hc
      cases h
      refine ⟨by simp, by (split <;> simp), by (split <;> simp), ?_⟩
      by_cases tt : TurnP q0 q1 q2 q3
      · simp (maxSteps := 10000000) [hx, hy, hz, hq0, hq1, hq2, hq3, InI_clamp, Try.f48, tt]
      · simp (maxSteps := 10000000) [hq0, hq1, hq2, hq3, Try.f48, tt]
    · simp at h
  · simp at h

noncomputable def r10back0S : List AV → PR
  | [.int .i64 a] => open Classical in if InI a then .val (.int .i64 (backI a)) else .fail
  | _ => .fail
@[simp] theorem r10back0S_val {a : Int} (h : InI a) : r10back0S [.int .i64 a] = .val (.int .i64 (backI a)) := if_pos h
noncomputable def r10BackS : List AV → PR
  | [.agg [.int .i64 b0, .int .i64 b1, .int .i64 b2, .int .i64 b3]] => open Classical in if InI b0 ∧ InI b1 ∧ InI b2 ∧ InI b3 then .val (.agg [.int .i64 (backI b0), .int .i64 (backI b1), .int .i64 (backI b2), .int .i64 (backI b3)]) else .fail
  | _ => .fail
@[simp] theorem r10BackS_val {b0 b1 b2 b3 : Int} (h : InI b0 ∧ InI b1 ∧ InI b2 ∧ InI b3) : r10BackS [.agg [.int .i64 b0, .int .i64 b1, .int .i64 b2, .int .i64 b3]] = .val (.agg [.int .i64 (backI b0), .int .i64 (backI b1), .int .i64 (backI b2), .int .i64 (backI b3)]) := if_pos h
noncomputable def r10TurnS : List AV → PR
  | [.agg [.int .i64 x, .int .i64 y, .int .i64 z], .agg [.int .i64 q0, .int .i64 q1, .int .i64 q2, .int .i64 q3]] => open Classical in if InI x ∧ InI y ∧ InI z ∧ InI q0 ∧ InI q1 ∧ InI q2 ∧ InI q3 then .val (if TurnP q0 q1 q2 q3 then .tup [.agg [.int .i64 (clampI ((clampI (quoI (r00 q0 q1 q2 q3 * 4294967296) (sq4 q0 q1 q2 q3)) * x * clampI (quoI (r00 q0 q1 q2 q3 * 4294967296) (sq4 q0 q1 q2 q3)) + clampI (quoI (r01 q0 q1 q2 q3 * 4294967296) (sq4 q0 q1 q2 q3)) * y * clampI (quoI (r01 q0 q1 q2 q3 * 4294967296) (sq4 q0 q1 q2 q3)) + clampI (quoI (r02 q0 q1 q2 q3 * 4294967296) (sq4 q0 q1 q2 q3)) * z * clampI (quoI (r02 q0 q1 q2 q3 * 4294967296) (sq4 q0 q1 q2 q3))) / 18446744073709551616)), .int .i64 (clampI ((clampI (quoI (r00 q0 q1 q2 q3 * 4294967296) (sq4 q0 q1 q2 q3)) * x * clampI (quoI (r10 q0 q1 q2 q3 * 4294967296) (sq4 q0 q1 q2 q3)) + clampI (quoI (r01 q0 q1 q2 q3 * 4294967296) (sq4 q0 q1 q2 q3)) * y * clampI (quoI (r11 q0 q1 q2 q3 * 4294967296) (sq4 q0 q1 q2 q3)) + clampI (quoI (r02 q0 q1 q2 q3 * 4294967296) (sq4 q0 q1 q2 q3)) * z * clampI (quoI (r12 q0 q1 q2 q3 * 4294967296) (sq4 q0 q1 q2 q3))) / 18446744073709551616)), .int .i64 (clampI ((clampI (quoI (r00 q0 q1 q2 q3 * 4294967296) (sq4 q0 q1 q2 q3)) * x * clampI (quoI (r20 q0 q1 q2 q3 * 4294967296) (sq4 q0 q1 q2 q3)) + clampI (quoI (r01 q0 q1 q2 q3 * 4294967296) (sq4 q0 q1 q2 q3)) * y * clampI (quoI (r21 q0 q1 q2 q3 * 4294967296) (sq4 q0 q1 q2 q3)) + clampI (quoI (r02 q0 q1 q2 q3 * 4294967296) (sq4 q0 q1 q2 q3)) * z * clampI (quoI (r22 q0 q1 q2 q3 * 4294967296) (sq4 q0 q1 q2 q3))) / 18446744073709551616)), .int .i64 (clampI ((clampI (quoI (r10 q0 q1 q2 q3 * 4294967296) (sq4 q0 q1 q2 q3)) * x * clampI (quoI (r00 q0 q1 q2 q3 * 4294967296) (sq4 q0 q1 q2 q3)) + clampI (quoI (r11 q0 q1 q2 q3 * 4294967296) (sq4 q0 q1 q2 q3)) * y * clampI (quoI (r01 q0 q1 q2 q3 * 4294967296) (sq4 q0 q1 q2 q3)) + clampI (quoI (r12 q0 q1 q2 q3 * 4294967296) (sq4 q0 q1 q2 q3)) * z * clampI (quoI (r02 q0 q1 q2 q3 * 4294967296) (sq4 q0 q1 q2 q3))) / 18446744073709551616)), .int .i64 (clampI ((clampI (quoI (r10 q0 q1 q2 q3 * 4294967296) (sq4 q0 q1 q2 q3)) * x * clampI (quoI (r10 q0 q1 q2 q3 * 4294967296) (sq4 q0 q1 q2 q3)) + clampI (quoI (r11 q0 q1 q2 q3 * 4294967296) (sq4 q0 q1 q2 q3)) * y * clampI (quoI (r11 q0 q1 q2 q3 * 4294967296) (sq4 q0 q1 q2 q3)) + clampI (quoI (r12 q0 q1 q2 q3 * 4294967296) (sq4 q0 q1 q2 q3)) * z * clampI (quoI (r12 q0 q1 q2 q3 * 4294967296) (sq4 q0 q1 q2 q3))) / 18446744073709551616)), .int .i64 (clampI ((clampI (quoI (r10 q0 q1 q2 q3 * 4294967296) (sq4 q0 q1 q2 q3)) * x * clampI (quoI (r20 q0 q1 q2 q3 * 4294967296) (sq4 q0 q1 q2 q3)) + clampI (quoI (r11 q0 q1 q2 q3 * 4294967296) (sq4 q0 q1 q2 q3)) * y * clampI (quoI (r21 q0 q1 q2 q3 * 4294967296) (sq4 q0 q1 q2 q3)) + clampI (quoI (r12 q0 q1 q2 q3 * 4294967296) (sq4 q0 q1 q2 q3)) * z * clampI (quoI (r22 q0 q1 q2 q3 * 4294967296) (sq4 q0 q1 q2 q3))) / 18446744073709551616)), .int .i64 (clampI ((clampI (quoI (r20 q0 q1 q2 q3 * 4294967296) (sq4 q0 q1 q2 q3)) * x * clampI (quoI (r00 q0 q1 q2 q3 * 4294967296) (sq4 q0 q1 q2 q3)) + clampI (quoI (r21 q0 q1 q2 q3 * 4294967296) (sq4 q0 q1 q2 q3)) * y * clampI (quoI (r01 q0 q1 q2 q3 * 4294967296) (sq4 q0 q1 q2 q3)) + clampI (quoI (r22 q0 q1 q2 q3 * 4294967296) (sq4 q0 q1 q2 q3)) * z * clampI (quoI (r02 q0 q1 q2 q3 * 4294967296) (sq4 q0 q1 q2 q3))) / 18446744073709551616)), .int .i64 (clampI ((clampI (quoI (r20 q0 q1 q2 q3 * 4294967296) (sq4 q0 q1 q2 q3)) * x * clampI (quoI (r10 q0 q1 q2 q3 * 4294967296) (sq4 q0 q1 q2 q3)) + clampI (quoI (r21 q0 q1 q2 q3 * 4294967296) (sq4 q0 q1 q2 q3)) * y * clampI (quoI (r11 q0 q1 q2 q3 * 4294967296) (sq4 q0 q1 q2 q3)) + clampI (quoI (r22 q0 q1 q2 q3 * 4294967296) (sq4 q0 q1 q2 q3)) * z * clampI (quoI (r12 q0 q1 q2 q3 * 4294967296) (sq4 q0 q1 q2 q3))) / 18446744073709551616)), .int .i64 (clampI ((clampI (quoI (r20 q0 q1 q2 q3 * 4294967296) (sq4 q0 q1 q2 q3)) * x * clampI (quoI (r20 q0 q1 q2 q3 * 4294967296) (sq4 q0 q1 q2 q3)) + clampI (quoI (r21 q0 q1 q2 q3 * 4294967296) (sq4 q0 q1 q2 q3)) * y * clampI (quoI (r21 q0 q1 q2 q3 * 4294967296) (sq4 q0 q1 q2 q3)) + clampI (quoI (r22 q0 q1 q2 q3 * 4294967296) (sq4 q0 q1 q2 q3)) * z * clampI (quoI (r22 q0 q1 q2 q3 * 4294967296) (sq4 q0 q1 q2 q3))) / 18446744073709551616))], .int .i64 0] else .tup [.agg [.int .i64 0, .int .i64 0, .int .i64 0, .int .i64 0, .int .i64 0, .int .i64 0, .int .i64 0, .int .i64 0, .int .i64 0], .int .i64 9]) else .fail
  | _ => .fail
@[simp] theorem r10TurnS_val {x y z q0 q1 q2 q3 : Int} (h : InI x ∧ InI y ∧ InI z ∧ InI q0 ∧ InI q1 ∧ InI q2 ∧ InI q3) : r10TurnS [.agg [.int .i64 x, .int .i64 y, .int .i64 z], .agg [.int .i64 q0, .int .i64 q1, .int .i64 q2, .int .i64 q3]] = .val (if TurnP q0 q1 q2 q3 then .tup [.agg [.int .i64 (clampI ((clampI (quoI (r00 q0 q1 q2 q3 * 4294967296) (sq4 q0 q1 q2 q3)) * x * clampI (quoI (r00 q0 q1 q2 q3 * 4294967296) (sq4 q0 q1 q2 q3)) + clampI (quoI (r01 q0 q1 q2 q3 * 4294967296) (sq4 q0 q1 q2 q3)) * y * clampI (quoI (r01 q0 q1 q2 q3 * 4294967296) (sq4 q0 q1 q2 q3)) + clampI (quoI (r02 q0 q1 q2 q3 * 4294967296) (sq4 q0 q1 q2 q3)) * z * clampI (quoI (r02 q0 q1 q2 q3 * 4294967296) (sq4 q0 q1 q2 q3))) / 18446744073709551616)), .int .i64 (clampI ((clampI (quoI (r00 q0 q1 q2 q3 * 4294967296) (sq4 q0 q1 q2 q3)) * x * clampI (quoI (r10 q0 q1 q2 q3 * 4294967296) (sq4 q0 q1 q2 q3)) + clampI (quoI (r01 q0 q1 q2 q3 * 4294967296) (sq4 q0 q1 q2 q3)) * y * clampI (quoI (r11 q0 q1 q2 q3 * 4294967296) (sq4 q0 q1 q2 q3)) + clampI (quoI (r02 q0 q1 q2 q3 * 4294967296) (sq4 q0 q1 q2 q3)) * z * clampI (quoI (r12 q0 q1 q2 q3 * 4294967296) (sq4 q0 q1 q2 q3))) / 18446744073709551616)), .int .i64 (clampI ((clampI (quoI (r00 q0 q1 q2 q3 * 4294967296) (sq4 q0 q1 q2 q3)) * x * clampI (quoI (r20 q0 q1 q2 q3 * 4294967296) (sq4 q0 q1 q2 q3)) + clampI (quoI (r01 q0 q1 q2 q3 * 4294967296) (sq4 q0 q1 q2 q3)) * y * clampI (quoI (r21 q0 q1 q2 q3 * 4294967296) (sq4 q0 q1 q2 q3)) + clampI (quoI (r02 q0 q1 q2 q3 * 4294967296) (sq4 q0 q1 q2 q3)) * z * clampI (quoI (r22 q0 q1 q2 q3 * 4294967296) (sq4 q0 q1 q2 q3))) / 18446744073709551616)), .int .i64 (clampI ((clampI (quoI (r10 q0 q1 q2 q3 * 4294967296) (sq4 q0 q1 q2 q3)) * x * clampI (quoI (r00 q0 q1 q2 q3 * 4294967296) (sq4 q0 q1 q2 q3)) + clampI (quoI (r11 q0 q1 q2 q3 * 4294967296) (sq4 q0 q1 q2 q3)) * y * clampI (quoI (r01 q0 q1 q2 q3 * 4294967296) (sq4 q0 q1 q2 q3)) + clampI (quoI (r12 q0 q1 q2 q3 * 4294967296) (sq4 q0 q1 q2 q3)) * z * clampI (quoI (r02 q0 q1 q2 q3 * 4294967296) (sq4 q0 q1 q2 q3))) / 18446744073709551616)), .int .i64 (clampI ((clampI (quoI (r10 q0 q1 q2 q3 * 4294967296) (sq4 q0 q1 q2 q3)) * x * clampI (quoI (r10 q0 q1 q2 q3 * 4294967296) (sq4 q0 q1 q2 q3)) + clampI (quoI (r11 q0 q1 q2 q3 * 4294967296) (sq4 q0 q1 q2 q3)) * y * clampI (quoI (r11 q0 q1 q2 q3 * 4294967296) (sq4 q0 q1 q2 q3)) + clampI (quoI (r12 q0 q1 q2 q3 * 4294967296) (sq4 q0 q1 q2 q3)) * z * clampI (quoI (r12 q0 q1 q2 q3 * 4294967296) (sq4 q0 q1 q2 q3))) / 18446744073709551616)), .int .i64 (clampI ((clampI (quoI (r10 q0 q1 q2 q3 * 4294967296) (sq4 q0 q1 q2 q3)) * x * clampI (quoI (r20 q0 q1 q2 q3 * 4294967296) (sq4 q0 q1 q2 q3)) + clampI (quoI (r11 q0 q1 q2 q3 * 4294967296) (sq4 q0 q1 q2 q3)) * y * clampI (quoI (r21 q0 q1 q2 q3 * 4294967296) (sq4 q0 q1 q2 q3)) + clampI (quoI (r12 q0 q1 q2 q3 * 4294967296) (sq4 q0 q1 q2 q3)) * z * clampI (quoI (r22 q0 q1 q2 q3 * 4294967296) (sq4 q0 q1 q2 q3))) / 18446744073709551616)), .int .i64 (clampI ((clampI (quoI (r20 q0 q1 q2 q3 * 4294967296) (sq4 q0 q1 q2 q3)) * x * clampI (quoI (r00 q0 q1 q2 q3 * 4294967296) (sq4 q0 q1 q2 q3)) + clampI (quoI (r21 q0 q1 q2 q3 * 4294967296) (sq4 q0 q1 q2 q3)) * y * clampI (quoI (r01 q0 q1 q2 q3 * 4294967296) (sq4 q0 q1 q2 q3)) + clampI (quoI (r22 q0 q1 q2 q3 * 4294967296) (sq4 q0 q1 q2 q3)) * z * clampI (quoI (r02 q0 q1 q2 q3 * 4294967296) (sq4 q0 q1 q2 q3))) / 18446744073709551616)), .int .i64 (clampI ((clampI (quoI (r20 q0 q1 q2 q3 * 4294967296) (sq4 q0 q1 q2 q3)) * x * clampI (quoI (r10 q0 q1 q2 q3 * 4294967296) (sq4 q0 q1 q2 q3)) + clampI (quoI (r21 q0 q1 q2 q3 * 4294967296) (sq4 q0 q1 q2 q3)) * y * clampI (quoI (r11 q0 q1 q2 q3 * 4294967296) (sq4 q0 q1 q2 q3)) + clampI (quoI (r22 q0 q1 q2 q3 * 4294967296) (sq4 q0 q1 q2 q3)) * z * clampI (quoI (r12 q0 q1 q2 q3 * 4294967296) (sq4 q0 q1 q2 q3))) / 18446744073709551616)), .int .i64 (clampI ((clampI (quoI (r20 q0 q1 q2 q3 * 4294967296) (sq4 q0 q1 q2 q3)) * x * clampI (quoI (r20 q0 q1 q2 q3 * 4294967296) (sq4 q0 q1 q2 q3)) + clampI (quoI (r21 q0 q1 q2 q3 * 4294967296) (sq4 q0 q1 q2 q3)) * y * clampI (quoI (r21 q0 q1 q2 q3 * 4294967296) (sq4 q0 q1 q2 q3)) + clampI (quoI (r22 q0 q1 q2 q3 * 4294967296) (sq4 q0 q1 q2 q3)) * z * clampI (quoI (r22 q0 q1 q2 q3 * 4294967296) (sq4 q0 q1 q2 q3))) / 18446744073709551616))], .int .i64 0] else .tup [.agg [.int .i64 0, .int .i64 0, .int .i64 0, .int .i64 0, .int .i64 0, .int .i64 0, .int .i64 0, .int .i64 0, .int .i64 0], .int .i64 9]) := if_pos h
noncomputable def lawBack10S : List AV → PR
  | [.agg [.int .i64 b0, .int .i64 b1, .int .i64 b2, .int .i64 b3]] => open Classical in if InI b0 ∧ InI b1 ∧ InI b2 ∧ InI b3 then .val (.bool true) else .fail
  | _ => .fail
@[simp] theorem lawBack10S_val {b0 b1 b2 b3 : Int} (h : InI b0 ∧ InI b1 ∧ InI b2 ∧ InI b3) : lawBack10S [.agg [.int .i64 b0, .int .i64 b1, .int .i64 b2, .int .i64 b3]] = .val (.bool true) := if_pos h
noncomputable def lawTurn10S : List AV → PR
  | [.agg [.int .i64 x, .int .i64 y, .int .i64 z], .agg [.int .i64 q0, .int .i64 q1, .int .i64 q2, .int .i64 q3]] => open Classical in if InI x ∧ InI y ∧ InI z ∧ InI q0 ∧ InI q1 ∧ InI q2 ∧ InI q3 then .val (.bool true) else .fail
  | _ => .fail
@[simp] theorem lawTurn10S_val {x y z q0 q1 q2 q3 : Int} (h : InI x ∧ InI y ∧ InI z ∧ InI q0 ∧ InI q1 ∧ InI q2 ∧ InI q3) : lawTurn10S [.agg [.int .i64 x, .int .i64 y, .int .i64 z], .agg [.int .i64 q0, .int .i64 q1, .int .i64 q2, .int .i64 q3]] = .val (.bool true) := if_pos h
end Go.X
