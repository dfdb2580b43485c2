/- Shapes without a list: halves. -/
import Derived.Test.YtfhooccdhmkaoaaJS4
namespace Go.X
open Go.Proofs
attribute [local irreducible] Good

theorem max3_000 : max3 0 0 0 = 0 := by decide
theorem loadB_VB {fs : List (Nat × Nat × Bool)} {z : AV} {q : Bool} {n c o k : Nat} {F : Nat → Int} {t : TypeId} (h : o + 3 ≤ k) (hk : k ≤ n * 3) :
    loadB ⟨.struct fs, 3, z, q⟩ ⟨[.arr .i64 ((n + c) * 3) (cutL k F)], t⟩ o = some (.agg [.int .i64 (F o), .int .i64 (F (o + 1)), .int .i64 (F (o + 2))]) := by
  have e0 : cutL k F o = F o := cutL_lt (by omega)
  have e1 : cutL k F (o + 1) = F (o + 1) := cutL_lt (by omega)
  have e2 : cutL k F (o + 2) = F (o + 2) := cutL_lt (by omega)
  have hle : o + 3 ≤ (n + c) * 3 := by omega
  simp only [loadB, TK.agg, if_true, readRow]
  by_cases h0 : o = 0 ∧ 3 = (n + c) * 3
  · rw [if_pos h0]
    obtain ⟨rfl, h3⟩ := h0
    rw [← h3]
    simp [asAgg, explode, List.range, List.range.loop] at *
    exact ⟨e0, e1, e2⟩
  · rw [if_neg h0, if_pos hle]
    simp [asAgg, explode, List.range, List.range.loop]
    exact ⟨e0, e1, e2⟩

noncomputable def halfNS : List AV → PR
  | [.agg [.int .i64 kd, .int .i64 r, .int .i64 x, .int .i64 y, .int .i64 z, .nilslice]] => open Classical in if InI kd ∧ InI r ∧ InI x ∧ InI y ∧ InI z then .val (if OkN kd r x y z then .tup [.agg [.int .i64 (x + r), .int .i64 (y + r), .int .i64 (z + r)], .int .i64 0] else .tup [.agg [.int .i64 0, .int .i64 0, .int .i64 0], .int .i64 2]) else .fail
  | _ => .fail
@[simp] theorem halfNS_val {kd r x y z : Int} (h : InI kd ∧ InI r ∧ InI x ∧ InI y ∧ InI z) : halfNS [.agg [.int .i64 kd, .int .i64 r, .int .i64 x, .int .i64 y, .int .i64 z, .nilslice]] = .val (if OkN kd r x y z then .tup [.agg [.int .i64 (x + r), .int .i64 (y + r), .int .i64 (z + r)], .int .i64 0] else .tup [.agg [.int .i64 0, .int .i64 0, .int .i64 0], .int .i64 2]) := if_pos h
set_option maxHeartbeats 400000000 in
set_option maxRecDepth 100000 in
theorem halfN_ok : SumOk Try.prog 30 (pureS halfNS) := by
  refine sum_fn (L := fun _ => none) (n := 10) (S := stOf [(29, coreNS), (80, pureS vAddS)]) drawS Try.T_ok (stOf_ok (by simp [coreN_ok, vAdd_ok])) Try.func30 rfl (by kernel_rfl) (by kernel_rfl) ?_
    (by intro args v h; unfold halfNS at h; split at h <;> (try split at h) <;> simp at h)
  intro args v h
  unfold halfNS at h
  split at h
  · rename_i kd r x y z
    split at h
    · rename_i hc
      obtain ⟨hkd, hr, hx, hy, hz⟩ := hc
      cases h
      refine ⟨by simp, by (split <;> simp), by (split <;> simp), ?_⟩
      by_cases ok : OkN kd r x y z
      · obtain ⟨hm, r0, r1, hs⟩ := may_in ok
        have sn := size_neg hs
        obtain ⟨sx, sy, sz⟩ := id hs
        have ar : clampI r = r := clampI_self hr
        have ax : clampI (x + r) = x + r := clampI_self (by unfold InI; omega)
        have ay : clampI (y + r) = y + r := clampI_self (by unfold InI; omega)
        have az : clampI (z + r) = z + r := clampI_self (by unfold InI; omega)
        have wx : IntKind.i64.wrap (-x) = -x := wrap_i64_in sn.1.1 sn.1.2
        have wy : IntKind.i64.wrap (-y) = -y := wrap_i64_in sn.2.1.1 sn.2.1.2
        have wz : IntKind.i64.wrap (-z) = -z := wrap_i64_in sn.2.2.1.1 sn.2.2.1.2
        have vx : IntKind.i64.wrap x = x := wrap_i64_in hx.1 hx.2
        have vy : IntKind.i64.wrap y = y := wrap_i64_in hy.1 hy.2
        have vz : IntKind.i64.wrap z = z := wrap_i64_in hz.1 hz.2
        rcases hm with ⟨rfl, rfl, rfl, rfl⟩ | ⟨rfl, rfl, rfl, z0⟩ | ⟨rfl, x0, y0, z0⟩
        · simp (maxSteps := 10000000) [hkd, hr, hx, coreNS, ↓loadB_VB, Try.f30, ok, corN, corF, ar]
        · have pz1 : 0 < z := by omega
          have pz2 : ¬ z < 0 := by omega
          have pz3 : ¬ z < -z := by omega
          have pz4 : -z < z := by omega
          simp (maxSteps := 10000000) [hkd, hx, coreNS, ↓loadB_VB, Try.f30, ok, corN, corF, wz, vz, pz1, pz2, pz3, ar, az, hz, hr]
        · have px1 : 0 < x := by omega
          have px2 : ¬ x < 0 := by omega
          have px3 : ¬ x < -x := by omega
          have px4 : -x < x := by omega
          have py1 : 0 < y := by omega
          have py2 : ¬ y < 0 := by omega
          have py3 : ¬ y < -y := by omega
          have py4 : -y < y := by omega
          have pz1 : 0 < z := by omega
          have pz2 : ¬ z < 0 := by omega
          have pz3 : ¬ z < -z := by omega
          have pz4 : -z < z := by omega
          simp (maxSteps := 10000000) [hkd, coreNS, ↓loadB_VB, Try.f30, ok, corN, corF, cornF, wx, vx, wy, vy, wz, vz, px1, px2, px3, py1, py2, py3, pz1, pz2, pz3, ax, ay, az, hx, hy, hz, hr]
      · simp (maxSteps := 10000000) [hkd, hr, hx, hy, hz, coreNS, Try.f30, ok]
    · simp at h
  · simp at h

end Go.X
