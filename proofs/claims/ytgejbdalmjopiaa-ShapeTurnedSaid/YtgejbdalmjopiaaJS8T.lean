/- The core of a sphere, a capsule or a box is the same, turned over. -/
import Derived.Test.YtgejbdalmjopiaaGS
namespace Go.X
open Go.Proofs
attribute [local irreducible] Good
noncomputable def lawTurned09S : List AV → PR
  | [.int .i64 kd, .int .i64 r, .agg [.int .i64 x, .int .i64 y, .int .i64 z]] => open Classical in if InI kd ∧ InI r ∧ InI x ∧ InI y ∧ InI z then .val (.bool true) else .fail
  | _ => .fail
@[simp] theorem lawTurned09S_val {kd r x y z : Int} (h : InI kd ∧ InI r ∧ InI x ∧ InI y ∧ InI z) : lawTurned09S [.int .i64 kd, .int .i64 r, .agg [.int .i64 x, .int .i64 y, .int .i64 z]] = .val (.bool true) := if_pos h
set_option maxHeartbeats 400000000 in
set_option maxRecDepth 100000 in
theorem lawTurned09_ok : SumOk Try.prog 4 (pureS lawTurned09S) := by
  refine sum_fn (L := fun _ => none) (n := 10) (S := stOf [(9, coreNS), (8, pureS awake09S)]) drawS Try.T_ok (stOf_ok (by simp [coreN_ok, awake09_ok])) Try.func4 rfl (by kernel_rfl) (by kernel_rfl) ?_
    (by intro args v h; unfold lawTurned09S at h; split at h <;> (try split at h) <;> simp at h)
  intro args v h
  unfold lawTurned09S at h
  split at h
  · rename_i kd r x y z
    split at h
    · rename_i hc
      obtain ⟨hkd, hr, hx, hy, hz⟩ := hc
      cases h
      refine ⟨by simp, by simp, by simp, ?_⟩
      by_cases ok : OkN kd r x y z
      · obtain ⟨hm, r0, r1, hs⟩ := may_in ok
        have sn := size_neg hs
        obtain ⟨sx, sy, sz⟩ := id hs
        rcases hm with ⟨rfl, rfl, rfl, rfl⟩ | ⟨rfl, rfl, rfl, z0⟩ | ⟨rfl, x0, y0, z0⟩
        · simp (maxSteps := 10000000) [hkd, hr, hx, coreNS, ↓loadB_VB, Try.f4, ltR, cutL, ok, corN, corF]
        · have wz1 : IntKind.i64.wrap (-z) = -z := wrap_i64_in (by omega) (by omega)
          have wz2 : IntKind.i64.wrap z = z := wrap_i64_in (by omega) (by omega)
          have bz1 : (-z == z) = false := by simp; omega
          have bz2 : (z == -z) = false := by simp; omega
          simp (maxSteps := 10000000) [hkd, hr, hx, hz, coreNS, ↓loadB_VB, Try.f4, ltS, ltR, cutL, ok, corN, corF, wz1, wz2, bz1]
        · have wx1 : IntKind.i64.wrap (-x) = -x := wrap_i64_in (by omega) (by omega)
          have wx2 : IntKind.i64.wrap x = x := wrap_i64_in (by omega) (by omega)
          have bx1 : (-x == x) = false := by simp; omega
          have bx2 : (x == -x) = false := by simp; omega
          have wy1 : IntKind.i64.wrap (-y) = -y := wrap_i64_in (by omega) (by omega)
          have wy2 : IntKind.i64.wrap y = y := wrap_i64_in (by omega) (by omega)
          have by1 : (-y == y) = false := by simp; omega
          have by2 : (y == -y) = false := by simp; omega
          have wz1 : IntKind.i64.wrap (-z) = -z := wrap_i64_in (by omega) (by omega)
          have wz2 : IntKind.i64.wrap z = z := wrap_i64_in (by omega) (by omega)
          have bz1 : (-z == z) = false := by simp; omega
          have bz2 : (z == -z) = false := by simp; omega
          simp (maxSteps := 10000000) [hkd, hr, hx, hy, hz, coreNS, ↓loadB_VB, Try.f4, ltS, ltR, cutL, ok, corN, corF, cornF, wx1, wx2, bx1, bx2, wy1, wy2, by1, by2, wz1, wz2, bz1]
      · simp (maxSteps := 10000000) [hkd, hr, hx, hy, hz, coreNS, Try.f4, ok]
    · simp at h
  · simp at h

end Go.X
