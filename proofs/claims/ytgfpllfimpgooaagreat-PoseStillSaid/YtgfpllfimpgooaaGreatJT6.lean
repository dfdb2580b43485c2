/- Poses: moved; what is always told; there and back again. -/
import Derived.Test.YtgfpllfimpgooaaGreatJT5
import Derived.Test.YtgfpllfimpgooaaGreatJT3
namespace Go.X
open Go.Proofs
attribute [local irreducible] Good
attribute [simp] Tryz.T_134

def sp0 (a b c d x y z t : Int) : Int := clampI ((a * 36893488147419103232 + t * qW 0 x y z a b c d) / 36893488147419103232)
def sp1 (a b c d x y z t : Int) : Int := clampI ((b * 36893488147419103232 + t * qX 0 x y z a b c d) / 36893488147419103232)
def sp2 (a b c d x y z t : Int) : Int := clampI ((c * 36893488147419103232 + t * qY 0 x y z a b c d) / 36893488147419103232)
def sp3 (a b c d x y z t : Int) : Int := clampI ((d * 36893488147419103232 + t * qZ 0 x y z a b c d) / 36893488147419103232)
theorem sp0_is {a b c d x y z t : Int} : clampI ((a * 36893488147419103232 + t * qW 0 x y z a b c d) / 36893488147419103232) = sp0 a b c d x y z t := rfl
theorem sp1_is {a b c d x y z t : Int} : clampI ((b * 36893488147419103232 + t * qX 0 x y z a b c d) / 36893488147419103232) = sp1 a b c d x y z t := rfl
theorem sp2_is {a b c d x y z t : Int} : clampI ((c * 36893488147419103232 + t * qY 0 x y z a b c d) / 36893488147419103232) = sp2 a b c d x y z t := rfl
theorem sp3_is {a b c d x y z t : Int} : clampI ((d * 36893488147419103232 + t * qZ 0 x y z a b c d) / 36893488147419103232) = sp3 a b c d x y z t := rfl
theorem sp_in {a b c d x y z t : Int} : InI (sp0 a b c d x y z t) ∧ InI (sp1 a b c d x y z t) ∧ InI (sp2 a b c d x y z t) ∧ InI (sp3 a b c d x y z t) := ⟨InI_clamp _, InI_clamp _, InI_clamp _, InI_clamp _⟩
/-- where a number goes -/
def mvI (p v t : Int) : Int := clampI ((p * 4294967296 + v * t) / 4294967296)
theorem mvI_is {p v t : Int} : clampI ((p * 4294967296 + v * t) / 4294967296) = mvI p v t := rfl
/-- brought to where a place may be -/
def plI (a : Int) : Int := betw a (-4398046511104) 4398046511104
theorem plI_is {a : Int} : betw a (-4398046511104) 4398046511104 = plI a := rfl
theorem plI_in {a : Int} : -4398046511104 ≤ plI a ∧ plI a ≤ 4398046511104 := by unfold plI betw; (repeat' split) <;> omega

noncomputable def vec11S : List AV → PR
  | [.int .i64 x, .int .i64 y, .int .i64 z] => open Classical in if -2048 ≤ x ∧ x ≤ 2048 ∧ -2048 ≤ y ∧ y ≤ 2048 ∧ -2048 ≤ z ∧ z ≤ 2048 then .val (.agg [.int .i64 (x * 4294967296), .int .i64 (y * 4294967296), .int .i64 (z * 4294967296)]) else .fail
  | _ => .fail
@[simp] theorem vec11S_val {x y z : Int} (h : -2048 ≤ x ∧ x ≤ 2048 ∧ -2048 ≤ y ∧ y ≤ 2048 ∧ -2048 ≤ z ∧ z ≤ 2048) : vec11S [.int .i64 x, .int .i64 y, .int .i64 z] = .val (.agg [.int .i64 (x * 4294967296), .int .i64 (y * 4294967296), .int .i64 (z * 4294967296)]) := if_pos h
theorem vec11_ok : SumOk Tryz.prog 59 (pureS vec11S) := by
  refine sum_fn (L := fun _ => none) (n := 1) (S := stOf []) drawS Tryz.T_ok (stOf_ok (by simp)) Tryz.func59 rfl (by kernel_rfl) (by kernel_rfl) ?_
    (by intro args v h; unfold vec11S at h; split at h <;> (try split at h) <;> simp at h)
  intro args v h
  unfold vec11S at h
  split at h
  · rename_i x y z
    split at h
    · rename_i hc
      obtain ⟨e0, e1, e2, e3, e4, e5⟩ := hc
      cases h
      refine ⟨by simp, by simp, by simp, ?_⟩
      have wx : IntKind.i64.wrap (x * 4294967296) = x * 4294967296 := wrap_i64_in (by omega) (by omega)
      have ux : IntKind.i64.wrap x = x := wrap_i64_in (by omega) (by omega)
      have wy : IntKind.i64.wrap (y * 4294967296) = y * 4294967296 := wrap_i64_in (by omega) (by omega)
      have uy : IntKind.i64.wrap y = y := wrap_i64_in (by omega) (by omega)
      have wz : IntKind.i64.wrap (z * 4294967296) = z * 4294967296 := wrap_i64_in (by omega) (by omega)
      have uz : IntKind.i64.wrap z = z := wrap_i64_in (by omega) (by omega)
      simp [Tryz.f59, wx, wy, wz]
    · simp at h
  · simp at h

noncomputable def pMoveS : List AV → PR
  | [.agg [.int .i64 p1, .int .i64 p2, .int .i64 p3, .int .i64 q0, .int .i64 q1, .int .i64 q2, .int .i64 q3], .agg [.int .i64 x, .int .i64 y, .int .i64 z], .agg [.int .i64 u, .int .i64 v, .int .i64 w], .int .i64 t] => open Classical in if InI p1 ∧ InI p2 ∧ InI p3 ∧ InI q0 ∧ InI q1 ∧ InI q2 ∧ InI q3 ∧ InI x ∧ InI y ∧ InI z ∧ InI u ∧ InI v ∧ InI w ∧ InI t then .val (if Place p1 p2 p3 ∧ TurnP q0 q1 q2 q3 then (if TurnP (sp0 q0 q1 q2 q3 u v w t) (sp1 q0 q1 q2 q3 u v w t) (sp2 q0 q1 q2 q3 u v w t) (sp3 q0 q1 q2 q3 u v w t) then .tup [.agg [.int .i64 (plI (mvI p1 x t)), .int .i64 (plI (mvI p2 y t)), .int .i64 (plI (mvI p3 z t)), .int .i64 (clampI (ratI (sp0 q0 q1 q2 q3 u v w t) (sq4 (sp0 q0 q1 q2 q3 u v w t) (sp1 q0 q1 q2 q3 u v w t) (sp2 q0 q1 q2 q3 u v w t) (sp3 q0 q1 q2 q3 u v w t)))), .int .i64 (clampI (ratI (sp1 q0 q1 q2 q3 u v w t) (sq4 (sp0 q0 q1 q2 q3 u v w t) (sp1 q0 q1 q2 q3 u v w t) (sp2 q0 q1 q2 q3 u v w t) (sp3 q0 q1 q2 q3 u v w t)))), .int .i64 (clampI (ratI (sp2 q0 q1 q2 q3 u v w t) (sq4 (sp0 q0 q1 q2 q3 u v w t) (sp1 q0 q1 q2 q3 u v w t) (sp2 q0 q1 q2 q3 u v w t) (sp3 q0 q1 q2 q3 u v w t)))), .int .i64 (clampI (ratI (sp3 q0 q1 q2 q3 u v w t) (sq4 (sp0 q0 q1 q2 q3 u v w t) (sp1 q0 q1 q2 q3 u v w t) (sp2 q0 q1 q2 q3 u v w t) (sp3 q0 q1 q2 q3 u v w t))))], .bool (decide (¬ (plI (mvI p1 x t) = mvI p1 x t ∧ plI (mvI p2 y t) = mvI p2 y t ∧ plI (mvI p3 z t) = mvI p3 z t))), .int .i64 0] else .tup [.agg [.int .i64 (plI (mvI p1 x t)), .int .i64 (plI (mvI p2 y t)), .int .i64 (plI (mvI p3 z t)), .int .i64 q0, .int .i64 q1, .int .i64 q2, .int .i64 q3], .bool true, .int .i64 0]) else .tup [.agg [.int .i64 0, .int .i64 0, .int .i64 0, .int .i64 0, .int .i64 0, .int .i64 0, .int .i64 0], .bool false, .int .i64 (if Place p1 p2 p3 then (if TurnP q0 q1 q2 q3 then 0 else 9) else 7)]) else .fail
  | _ => .fail
@[simp] theorem pMoveS_val {p1 p2 p3 q0 q1 q2 q3 x y z u v w t : Int} (h : InI p1 ∧ InI p2 ∧ InI p3 ∧ InI q0 ∧ InI q1 ∧ InI q2 ∧ InI q3 ∧ InI x ∧ InI y ∧ InI z ∧ InI u ∧ InI v ∧ InI w ∧ InI t) : pMoveS [.agg [.int .i64 p1, .int .i64 p2, .int .i64 p3, .int .i64 q0, .int .i64 q1, .int .i64 q2, .int .i64 q3], .agg [.int .i64 x, .int .i64 y, .int .i64 z], .agg [.int .i64 u, .int .i64 v, .int .i64 w], .int .i64 t] = .val (if Place p1 p2 p3 ∧ TurnP q0 q1 q2 q3 then (if TurnP (sp0 q0 q1 q2 q3 u v w t) (sp1 q0 q1 q2 q3 u v w t) (sp2 q0 q1 q2 q3 u v w t) (sp3 q0 q1 q2 q3 u v w t) then .tup [.agg [.int .i64 (plI (mvI p1 x t)), .int .i64 (plI (mvI p2 y t)), .int .i64 (plI (mvI p3 z t)), .int .i64 (clampI (ratI (sp0 q0 q1 q2 q3 u v w t) (sq4 (sp0 q0 q1 q2 q3 u v w t) (sp1 q0 q1 q2 q3 u v w t) (sp2 q0 q1 q2 q3 u v w t) (sp3 q0 q1 q2 q3 u v w t)))), .int .i64 (clampI (ratI (sp1 q0 q1 q2 q3 u v w t) (sq4 (sp0 q0 q1 q2 q3 u v w t) (sp1 q0 q1 q2 q3 u v w t) (sp2 q0 q1 q2 q3 u v w t) (sp3 q0 q1 q2 q3 u v w t)))), .int .i64 (clampI (ratI (sp2 q0 q1 q2 q3 u v w t) (sq4 (sp0 q0 q1 q2 q3 u v w t) (sp1 q0 q1 q2 q3 u v w t) (sp2 q0 q1 q2 q3 u v w t) (sp3 q0 q1 q2 q3 u v w t)))), .int .i64 (clampI (ratI (sp3 q0 q1 q2 q3 u v w t) (sq4 (sp0 q0 q1 q2 q3 u v w t) (sp1 q0 q1 q2 q3 u v w t) (sp2 q0 q1 q2 q3 u v w t) (sp3 q0 q1 q2 q3 u v w t))))], .bool (decide (¬ (plI (mvI p1 x t) = mvI p1 x t ∧ plI (mvI p2 y t) = mvI p2 y t ∧ plI (mvI p3 z t) = mvI p3 z t))), .int .i64 0] else .tup [.agg [.int .i64 (plI (mvI p1 x t)), .int .i64 (plI (mvI p2 y t)), .int .i64 (plI (mvI p3 z t)), .int .i64 q0, .int .i64 q1, .int .i64 q2, .int .i64 q3], .bool true, .int .i64 0]) else .tup [.agg [.int .i64 0, .int .i64 0, .int .i64 0, .int .i64 0, .int .i64 0, .int .i64 0, .int .i64 0], .bool false, .int .i64 (if Place p1 p2 p3 then (if TurnP q0 q1 q2 q3 then 0 else 9) else 7)]) := if_pos h
set_option maxHeartbeats 40000000 in
theorem pMove_ok : SumOk Tryz.prog 41 (pureS pMoveS) := by
  refine sum_fn (L := fun _ => none) (n := 5) (S := stOf [(96, pureS fclampS), (58, pureS pCheckS), (97, pureS qSpinS), (54, pureS qUnitS), (95, pureS vMoveS)]) drawS Tryz.T_ok (stOf_ok (by simp [fclamp_ok, pCheck_ok, qSpin_ok, qUnit_ok, vMove_ok])) Tryz.func41 rfl (by kernel_rfl) (by kernel_rfl) ?_
    (by intro args v h; unfold pMoveS at h; split at h <;> (try split at h) <;> simp at h)
  intro args v h
  unfold pMoveS at h
  split at h
  · rename_i p1 p2 p3 q0 q1 q2 q3 x y z u v w t
    split at h
    · rename_i hc
      obtain ⟨hp1, hp2, hp3, hq0, hq1, hq2, hq3, hx, hy, hz, hu, hv, hw, ht⟩ := hc
      cases h
      refine ⟨by simp, by (split <;> (try split) <;> simp), by (split <;> (try split) <;> simp), ?_⟩
      by_cases pl : Place p1 p2 p3
      · by_cases tt : TurnP q0 q1 q2 q3
        · by_cases ts : TurnP (sp0 q0 q1 q2 q3 u v w t) (sp1 q0 q1 q2 q3 u v w t) (sp2 q0 q1 q2 q3 u v w t) (sp3 q0 q1 q2 q3 u v w t)
          · by_cases c1 : plI (mvI p1 x t) = mvI p1 x t <;> by_cases c2 : plI (mvI p2 y t) = mvI p2 y t <;> by_cases c3 : plI (mvI p3 z t) = mvI p3 z t <;>
              simp (maxSteps := 10000000) [hp1, hp2, hp3, hq0, hq1, hq2, hq3, hx, hy, hz, hu, hv, hw, ht, mvI_is, plI_is, sp0_is, sp1_is, sp2_is, sp3_is, sp_in, Tryz.f41, pl, tt, ts, c1, c2, c3]
          · by_cases c1 : plI (mvI p1 x t) = mvI p1 x t <;> by_cases c2 : plI (mvI p2 y t) = mvI p2 y t <;> by_cases c3 : plI (mvI p3 z t) = mvI p3 z t <;>
              simp (maxSteps := 10000000) [hp1, hp2, hp3, hq0, hq1, hq2, hq3, hx, hy, hz, hu, hv, hw, ht, mvI_is, plI_is, sp0_is, sp1_is, sp2_is, sp3_is, sp_in, Tryz.f41, pl, tt, ts, c1, c2, c3]
        · simp (maxSteps := 10000000) [hp1, hp2, hp3, hq0, hq1, hq2, hq3, Tryz.f41, pl, tt]
      · simp (maxSteps := 10000000) [hp1, hp2, hp3, hq0, hq1, hq2, hq3, Tryz.f41, pl]
    · simp at h
  · simp at h

noncomputable def awake11S : List AV → PR
  | [] => .val (.bool true)
  | _ => .fail
@[simp] theorem awake11S_val : awake11S [] = .val (.bool true) := rfl
set_option maxHeartbeats 400000000 in
set_option maxRecDepth 100000 in
theorem awake11_ok : SumOk Tryz.prog 15 (pureS awake11S) := by
  refine sum_fn (L := fun i => if i = 2 then some (.held 7 [5]) else none) (n := 1) (S := stOf [(59, pureS vec11S), (18, pureS pInS), (41, pureS pMoveS), (17, pureS pOutS)]) drawS Tryz.T_ok (stOf_ok (by simp [vec11_ok, pIn_ok, pMove_ok, pOut_ok])) Tryz.func15 rfl (by kernel_rfl) (by kernel_rfl) ?_
    (by intro args v h; unfold awake11S at h; split at h <;> (try split at h) <;> simp at h)
  intro args v h
  unfold awake11S at h
  split at h
  · skip
    cases h
    refine ⟨by simp, by simp, by simp, ?_⟩
    have pl1 : Place 4294967296 8589934592 12884901888 := by unfold Place; decide
    have pl2 : Place 4393751543808 0 0 := by unfold Place; decide
    have t0 : TurnP 0 0 0 4294967296 := by decide
    have t1 : TurnP 4294967296 0 0 0 := by decide
    have s0 : sp0 4294967296 0 0 0 0 0 0 4294967296 = 4294967296 := by decide +kernel
    have s1 : sp1 4294967296 0 0 0 0 0 0 4294967296 = 0 := by decide +kernel
    have s2 : sp2 4294967296 0 0 0 0 0 0 4294967296 = 0 := by decide +kernel
    have s3 : sp3 4294967296 0 0 0 0 0 0 4294967296 = 0 := by decide +kernel
    have g1 : ratI 4294967296 (sq4 4294967296 0 0 0) = 4294967296 := by
      unfold ratI
      rw [if_neg (by decide), show quoI (4294967296 * 4294967296 * 18446744073709551616) (sq4 4294967296 0 0 0) = 18446744073709551616 by decide +kernel]
      exact rootI_of (by decide) (by decide) (by decide)
    have g2 : ratI 0 (sq4 4294967296 0 0 0) = 0 := by
      unfold ratI
      rw [if_neg (by decide), show quoI (0 * 0 * 18446744073709551616) (sq4 4294967296 0 0 0) = 0 by decide +kernel]
      exact rootI_of (by decide) (by decide) (by decide)
    have c1 : clampI 4294967296 = 4294967296 := by decide
    have c2 : clampI 17179869184 = 17179869184 := by decide
    have c3 : clampI (-4294967296) = -4294967296 := by decide
    have c4 : clampI 0 = 0 := by decide
    have i1 : InI 4294967296 := by decide
    have i2 : InI 8589934592 := by decide
    have i3 : InI 12884901888 := by decide
    have i4 : InI 17179869184 := by decide
    have i5 : InI 4393751543808 := by decide
    have i6 : InI 0 := by decide
    have k1 : mvI 4393751543808 8589934592 4294967296 = 4402341478400 := by decide +kernel
    have k2 : mvI 0 0 4294967296 = 0 := by decide +kernel
    have k3 : plI 4402341478400 = 4398046511104 := by decide +kernel
    have k4 : plI 0 = 0 := by decide +kernel
    have m00 : clampI (quoI (r00 0 0 0 4294967296 * 4294967296) (sq4 0 0 0 4294967296)) = -4294967296 := by decide +kernel
    have m01 : clampI (quoI (r01 0 0 0 4294967296 * 4294967296) (sq4 0 0 0 4294967296)) = 0 := by decide +kernel
    have m02 : clampI (quoI (r02 0 0 0 4294967296 * 4294967296) (sq4 0 0 0 4294967296)) = 0 := by decide +kernel
    have m10 : clampI (quoI (r10 0 0 0 4294967296 * 4294967296) (sq4 0 0 0 4294967296)) = 0 := by decide +kernel
    have m11 : clampI (quoI (r11 0 0 0 4294967296 * 4294967296) (sq4 0 0 0 4294967296)) = -4294967296 := by decide +kernel
    have m12 : clampI (quoI (r12 0 0 0 4294967296 * 4294967296) (sq4 0 0 0 4294967296)) = 0 := by decide +kernel
    have m20 : clampI (quoI (r20 0 0 0 4294967296 * 4294967296) (sq4 0 0 0 4294967296)) = 0 := by decide +kernel
    have m21 : clampI (quoI (r21 0 0 0 4294967296 * 4294967296) (sq4 0 0 0 4294967296)) = 0 := by decide +kernel
    have m22 : clampI (quoI (r22 0 0 0 4294967296 * 4294967296) (sq4 0 0 0 4294967296)) = 4294967296 := by decide +kernel
    simp (maxSteps := 10000000) [Tryz.f15, pl1, pl2, t0, t1, s0, s1, s2, s3, g1, g2, c1, c2, c4, i1, i2, i3, i4, i5, i6, k1, k2, k3, k4, m00, m01, m02, m10, m11, m12, m20, m21, m22]
  · simp at h

end Go.X
