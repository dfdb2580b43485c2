/- Masses and moments: of shapes without a list; the laws that need no more. -/
import Derived.Test.YtgejbdalmjopiaaJS3
import Derived.Test.YtgejbdalmjopiaaGS
namespace Go.X
open Go.Proofs
attribute [local irreducible] Good

noncomputable def mOfNS : List AV → PR
  | [.agg [.int .i64 kd, .int .i64 r, .int .i64 x, .int .i64 y, .int .i64 z, .nilslice], .int .i64 m] => open Classical in if InI kd ∧ InI r ∧ InI x ∧ InI y ∧ InI z ∧ InI m then .val (if OkN kd r x y z ∧ 16777216 ≤ m ∧ m ≤ 4503599627370496 then .tup [.agg [.int .i64 m, .int .i64 (momI m (y + r) (z + r)), .int .i64 (momI m (x + r) (z + r)), .int .i64 (momI m (x + r) (y + r))], .int .i64 0] else .tup [.agg [.int .i64 0, .int .i64 0, .int .i64 0, .int .i64 0], .int .i64 2]) else .fail
  | _ => .fail
@[simp] theorem mOfNS_val {kd r x y z m : Int} (h : InI kd ∧ InI r ∧ InI x ∧ InI y ∧ InI z ∧ InI m) : mOfNS [.agg [.int .i64 kd, .int .i64 r, .int .i64 x, .int .i64 y, .int .i64 z, .nilslice], .int .i64 m] = .val (if OkN kd r x y z ∧ 16777216 ≤ m ∧ m ≤ 4503599627370496 then .tup [.agg [.int .i64 m, .int .i64 (momI m (y + r) (z + r)), .int .i64 (momI m (x + r) (z + r)), .int .i64 (momI m (x + r) (y + r))], .int .i64 0] else .tup [.agg [.int .i64 0, .int .i64 0, .int .i64 0, .int .i64 0], .int .i64 2]) := if_pos h
set_option maxHeartbeats 40000000 in
theorem mOfN_ok : SumOk Try.prog 19 (pureS mOfNS) := by
  refine sum_fn (L := fun i => if i = 8 then some (.quiet 21) else none) (n := 1) (S := stOf [(33, mmomS), (10, pureS halfNS)]) drawS Try.T_ok (stOf_ok (by simp [mmom_ok, halfN_ok])) Try.func19 rfl (by kernel_rfl) (by kernel_rfl) ?_
    (by intro args v h; unfold mOfNS at h; split at h <;> (try split at h) <;> simp at h)
  intro args v h
  unfold mOfNS at h
  split at h
  · rename_i kd r x y z m
    split at h
    · rename_i hc
      obtain ⟨hkd, hr, hx, hy, hz, hm⟩ := hc
      cases h
      refine ⟨by simp, by (split <;> simp), by (split <;> simp), ?_⟩
      by_cases ok : OkN kd r x y z
      · obtain ⟨hk, r0, r1, hs⟩ := may_in ok
        obtain ⟨sx, sy, sz⟩ := id hs
        have ix : InI (x + r) := by unfold InI; omega
        have iy : InI (y + r) := by unfold InI; omega
        have iz : InI (z + r) := by unfold InI; omega
        by_cases l1 : 16777216 ≤ m
        · have l1' : ¬ m < 16777216 := by omega
          by_cases l2 : m ≤ 4503599627370496
          · have l2' : ¬ 4503599627370496 < m := by omega
            simp (maxSteps := 10000000) [hkd, hr, hx, hy, hz, hm, mmomS, Try.f19, ok, l1, l2, l1', l2', ix, iy, iz]
          · have l2' : 4503599627370496 < m := by omega
            simp (maxSteps := 10000000) [hkd, hr, hx, hy, hz, Try.f19, ok, l1, l2, l1', l2']
        · have l1' : m < 16777216 := by omega
          simp (maxSteps := 10000000) [hkd, hr, hx, hy, hz, Try.f19, ok, l1, l1']
      · simp (maxSteps := 10000000) [hkd, hr, hx, hy, hz, Try.f19, ok]
    · simp at h
  · simp at h

noncomputable def awake10S : List AV → PR
  | [] => .val (.bool true)
  | _ => .fail
@[simp] theorem awake10S_val : awake10S [] = .val (.bool true) := rfl
set_option maxHeartbeats 40000000 in
set_option maxRecDepth 100000 in
theorem awake10_ok : SumOk Try.prog 18 (pureS awake10S) := by
  refine sum_fn (L := fun _ => none) (n := 1) (S := stOf [(29, pureS mBackS), (19, pureS mOfNS)]) drawS Try.T_ok (stOf_ok (by simp [mBack_ok, mOfN_ok])) Try.func18 rfl (by kernel_rfl) (by kernel_rfl) ?_
    (by intro args v h; unfold awake10S at h; split at h <;> (try split at h) <;> simp at h)
  intro args v h
  unfold awake10S at h
  split at h
  · skip
    cases h
    refine ⟨by simp, by simp, by simp, ?_⟩
    have ok : OkN 3 0 4294967296 4294967296 4294967296 := by unfold OkN MayN May3 Size3 min3; decide
    have i1 : InI 4294967296 := by decide
    have i2 : InI 12884901888 := by decide
    have i3 : InI 0 := by decide
    have i4 : InI 3 := by decide
    have i5 : InI 8589934592 := by decide
    have i6 : InI 17179869184 := by decide
    have i7 : InI 2147483648 := by decide
    have m1 : momI 12884901888 4294967296 4294967296 = 8589934592 := by decide +kernel
    have b1 : backI 8589934592 = 2147483648 := by decide +kernel
    have b2 : backI 17179869184 = 1073741824 := by decide +kernel
    have b3 : backI 0 = 0 := by decide +kernel
    have b4 : backI 2147483648 = 8589934592 := by decide +kernel
    simp (maxSteps := 10000000) [Try.f18, ok, i1, i2, i3, i4, i5, i6, i7, m1, b1, b2, b3, b4]
  · simp at h

end Go.X
