/- Poses: moved; what is always told; there and back again. -/
import Derived.Test.YtfhooccdhmkaoaaJT5
import Derived.Test.YtfhooccdhmkaoaaJT3
namespace Go.X
open Go.Proofs
attribute [local irreducible] Good
attribute [simp] Try.T_174

/-- a point that may be asked -/
def Size3 (a b c : Int) : Prop := (-274877906944 ≤ a ∧ a ≤ 274877906944) ∧ (-274877906944 ≤ b ∧ b ≤ 274877906944) ∧ (-274877906944 ≤ c ∧ c ≤ 274877906944)
theorem size_iff {a b c : Int} : Size3 a b c ↔ ¬ (274877906944 < max3 a b c) ∧ ¬ (min3 a b c < -274877906944) := by
  unfold Size3 max3 min3
  constructor
  · intro h; constructor <;> (repeat' split) <;> omega
  · rintro ⟨h1, h2⟩
    revert h1 h2
    (repeat' split) <;> omega
def sp0 (a b c d x y z t : Int) : Int := clampI ((a * 36893488147419103232 + t * qW 0 x y z a b c d) / 36893488147419103232)
def sp1 (a b c d x y z t : Int) : Int := clampI ((b * 36893488147419103232 + t * qX 0 x y z a b c d) / 36893488147419103232)
def sp2 (a b c d x y z t : Int) : Int := clampI ((c * 36893488147419103232 + t * qY 0 x y z a b c d) / 36893488147419103232)
def sp3 (a b c d x y z t : Int) : Int := clampI ((d * 36893488147419103232 + t * qZ 0 x y z a b c d) / 36893488147419103232)
theorem sp0_is {a b c d x y z t : Int} : clampI ((a * 36893488147419103232 + t * qW 0 x y z a b c d) / 36893488147419103232) = sp0 a b c d x y z t := rfl
theorem sp1_is {a b c d x y z t : Int} : clampI ((b * 36893488147419103232 + t * qX 0 x y z a b c d) / 36893488147419103232) = sp1 a b c d x y z t := rfl
theorem sp2_is {a b c d x y z t : Int} : clampI ((c * 36893488147419103232 + t * qY 0 x y z a b c d) / 36893488147419103232) = sp2 a b c d x y z t := rfl
theorem sp3_is {a b c d x y z t : Int} : clampI ((d * 36893488147419103232 + t * qZ 0 x y z a b c d) / 36893488147419103232) = sp3 a b c d x y z t := rfl
theorem sp_in {a b c d x y z t : Int} : InI (sp0 a b c d x y z t) ∧ InI (sp1 a b c d x y z t) ∧ InI (sp2 a b c d x y z t) ∧ InI (sp3 a b c d x y z t) := ⟨InI_clamp _, InI_clamp _, InI_clamp _, InI_clamp _⟩
/-- where a number goes -/
def mvI (p v t : Int) : Int := clampI ((p * 4294967296 + v * t) / 4294967296)
theorem mvI_is {p v t : Int} : clampI ((p * 4294967296 + v * t) / 4294967296) = mvI p v t := rfl
theorem mvI_in {p v t : Int} : InI (mvI p v t) := InI_clamp _
/-- brought to where a place may be -/
def plI (a : Int) : Int := betw a (-4398046511104) 4398046511104
theorem plI_is {a : Int} : betw a (-4398046511104) 4398046511104 = plI a := rfl
theorem plI_in {a : Int} : -4398046511104 ≤ plI a ∧ plI a ≤ 4398046511104 := by unfold plI betw; (repeat' split) <;> omega

noncomputable def vec11S : List AV → PR
  | [.int .i64 x, .int .i64 y, .int .i64 z] => open Classical in if -2048 ≤ x ∧ x ≤ 2048 ∧ -2048 ≤ y ∧ y ≤ 2048 ∧ -2048 ≤ z ∧ z ≤ 2048 then .val (.agg [.int .i64 (x * 4294967296), .int .i64 (y * 4294967296), .int .i64 (z * 4294967296)]) else .fail
  | _ => .fail
@[simp] theorem vec11S_val {x y z : Int} (h : -2048 ≤ x ∧ x ≤ 2048 ∧ -2048 ≤ y ∧ y ≤ 2048 ∧ -2048 ≤ z ∧ z ≤ 2048) : vec11S [.int .i64 x, .int .i64 y, .int .i64 z] = .val (.agg [.int .i64 (x * 4294967296), .int .i64 (y * 4294967296), .int .i64 (z * 4294967296)]) := if_pos h
theorem vec11_ok : SumOk Try.prog 86 (pureS vec11S) := by
  refine sum_fn (L := fun _ => none) (n := 1) (S := stOf []) drawS Try.T_ok (stOf_ok (by simp)) Try.func86 rfl (by kernel_rfl) (by kernel_rfl) ?_
    (by intro args v h; unfold vec11S at h; split at h <;> (try split at h) <;> simp at h)
  intro args v h
  unfold vec11S at h
  split at h
  · rename_i x y z
    split at h
    · rename_i hc
      obtain ⟨e0, e1, e2, e3, e4, e5⟩ := hc
      cases h
      refine ⟨by simp, by simp, by simp, ?_⟩
      have wx : IntKind.i64.wrap (x * 4294967296) = x * 4294967296 := wrap_i64_in (by omega) (by omega)
      have ux : IntKind.i64.wrap x = x := wrap_i64_in (by omega) (by omega)
      have wy : IntKind.i64.wrap (y * 4294967296) = y * 4294967296 := wrap_i64_in (by omega) (by omega)
      have uy : IntKind.i64.wrap y = y := wrap_i64_in (by omega) (by omega)
      have wz : IntKind.i64.wrap (z * 4294967296) = z * 4294967296 := wrap_i64_in (by omega) (by omega)
      have uz : IntKind.i64.wrap z = z := wrap_i64_in (by omega) (by omega)
      simp [Try.f86, wx, wy, wz]
    · simp at h
  · simp at h

noncomputable def pMoveS : List AV → PR
  | [.agg [.int .i64 p1, .int .i64 p2, .int .i64 p3, .int .i64 q0, .int .i64 q1, .int .i64 q2, .int .i64 q3], .agg [.int .i64 x, .int .i64 y, .int .i64 z], .agg [.int .i64 u, .int .i64 v, .int .i64 w], .int .i64 t] => open Classical in if InI p1 ∧ InI p2 ∧ InI p3 ∧ InI q0 ∧ InI q1 ∧ InI q2 ∧ InI q3 ∧ InI x ∧ InI y ∧ InI z ∧ InI u ∧ InI v ∧ InI w ∧ InI t then .val (if Place p1 p2 p3 ∧ TurnP q0 q1 q2 q3 then (if TurnP (sp0 q0 q1 q2 q3 u v w t) (sp1 q0 q1 q2 q3 u v w t) (sp2 q0 q1 q2 q3 u v w t) (sp3 q0 q1 q2 q3 u v w t) then .tup [.agg [.int .i64 (plI (mvI p1 x t)), .int .i64 (plI (mvI p2 y t)), .int .i64 (plI (mvI p3 z t)), .int .i64 (clampI (ratI (sp0 q0 q1 q2 q3 u v w t) (sq4 (sp0 q0 q1 q2 q3 u v w t) (sp1 q0 q1 q2 q3 u v w t) (sp2 q0 q1 q2 q3 u v w t) (sp3 q0 q1 q2 q3 u v w t)))), .int .i64 (clampI (ratI (sp1 q0 q1 q2 q3 u v w t) (sq4 (sp0 q0 q1 q2 q3 u v w t) (sp1 q0 q1 q2 q3 u v w t) (sp2 q0 q1 q2 q3 u v w t) (sp3 q0 q1 q2 q3 u v w t)))), .int .i64 (clampI (ratI (sp2 q0 q1 q2 q3 u v w t) (sq4 (sp0 q0 q1 q2 q3 u v w t) (sp1 q0 q1 q2 q3 u v w t) (sp2 q0 q1 q2 q3 u v w t) (sp3 q0 q1 q2 q3 u v w t)))), .int .i64 (clampI (ratI (sp3 q0 q1 q2 q3 u v w t) (sq4 (sp0 q0 q1 q2 q3 u v w t) (sp1 q0 q1 q2 q3 u v w t) (sp2 q0 q1 q2 q3 u v w t) (sp3 q0 q1 q2 q3 u v w t))))], .bool (decide (¬ (plI (mvI p1 x t) = mvI p1 x t ∧ plI (mvI p2 y t) = mvI p2 y t ∧ plI (mvI p3 z t) = mvI p3 z t))), .int .i64 0] else .tup [.agg [.int .i64 (plI (mvI p1 x t)), .int .i64 (plI (mvI p2 y t)), .int .i64 (plI (mvI p3 z t)), .int .i64 q0, .int .i64 q1, .int .i64 q2, .int .i64 q3], .bool true, .int .i64 0]) else .tup [.agg [.int .i64 0, .int .i64 0, .int .i64 0, .int .i64 0, .int .i64 0, .int .i64 0, .int .i64 0], .bool false, .int .i64 (if Place p1 p2 p3 then (if TurnP q0 q1 q2 q3 then 0 else 9) else 7)]) else .fail
  | _ => .fail
@[simp] theorem pMoveS_val {p1 p2 p3 q0 q1 q2 q3 x y z u v w t : Int} (h : InI p1 ∧ InI p2 ∧ InI p3 ∧ InI q0 ∧ InI q1 ∧ InI q2 ∧ InI q3 ∧ InI x ∧ InI y ∧ InI z ∧ InI u ∧ InI v ∧ InI w ∧ InI t) : pMoveS [.agg [.int .i64 p1, .int .i64 p2, .int .i64 p3, .int .i64 q0, .int .i64 q1, .int .i64 q2, .int .i64 q3], .agg [.int .i64 x, .int .i64 y, .int .i64 z], .agg [.int .i64 u, .int .i64 v, .int .i64 w], .int .i64 t] = .val (if Place p1 p2 p3 ∧ TurnP q0 q1 q2 q3 then (if TurnP (sp0 q0 q1 q2 q3 u v w t) (sp1 q0 q1 q2 q3 u v w t) (sp2 q0 q1 q2 q3 u v w t) (sp3 q0 q1 q2 q3 u v w t) then .tup [.agg [.int .i64 (plI (mvI p1 x t)), .int .i64 (plI (mvI p2 y t)), .int .i64 (plI (mvI p3 z t)), .int .i64 (clampI (ratI (sp0 q0 q1 q2 q3 u v w t) (sq4 (sp0 q0 q1 q2 q3 u v w t) (sp1 q0 q1 q2 q3 u v w t) (sp2 q0 q1 q2 q3 u v w t) (sp3 q0 q1 q2 q3 u v w t)))), .int .i64 (clampI (ratI (sp1 q0 q1 q2 q3 u v w t) (sq4 (sp0 q0 q1 q2 q3 u v w t) (sp1 q0 q1 q2 q3 u v w t) (sp2 q0 q1 q2 q3 u v w t) (sp3 q0 q1 q2 q3 u v w t)))), .int .i64 (clampI (ratI (sp2 q0 q1 q2 q3 u v w t) (sq4 (sp0 q0 q1 q2 q3 u v w t) (sp1 q0 q1 q2 q3 u v w t) (sp2 q0 q1 q2 q3 u v w t) (sp3 q0 q1 q2 q3 u v w t)))), .int .i64 (clampI (ratI (sp3 q0 q1 q2 q3 u v w t) (sq4 (sp0 q0 q1 q2 q3 u v w t) (sp1 q0 q1 q2 q3 u v w t) (sp2 q0 q1 q2 q3 u v w t) (sp3 q0 q1 q2 q3 u v w t))))], .bool (decide (¬ (plI (mvI p1 x t) = mvI p1 x t ∧ plI (mvI p2 y t) = mvI p2 y t ∧ plI (mvI p3 z t) = mvI p3 z t))), .int .i64 0] else .tup [.agg [.int .i64 (plI (mvI p1 x t)), .int .i64 (plI (mvI p2 y t)), .int .i64 (plI (mvI p3 z t)), .int .i64 q0, .int .i64 q1, .int .i64 q2, .int .i64 q3], .bool true, .int .i64 0]) else .tup [.agg [.int .i64 0, .int .i64 0, .int .i64 0, .int .i64 0, .int .i64 0, .int .i64 0, .int .i64 0], .bool false, .int .i64 (if Place p1 p2 p3 then (if TurnP q0 q1 q2 q3 then 0 else 9) else 7)]) := if_pos h
set_option maxHeartbeats 40000000 in
theorem pMove_ok : SumOk Try.prog 87 (pureS pMoveS) := by
  refine sum_fn (L := fun _ => none) (n := 5) (S := stOf [(147, pureS fclampS), (39, pureS pCheckS), (148, pureS qSpinS), (23, pureS qUnitS), (146, pureS vMoveS)]) drawS Try.T_ok (stOf_ok (by simp [fclamp_ok, pCheck_ok, qSpin_ok, qUnit_ok, vMove_ok])) Try.func87 rfl (by kernel_rfl) (by kernel_rfl) ?_
    (by intro args v h; unfold pMoveS at h; split at h <;> (try split at h) <;> simp at h)
  intro args v h
  unfold pMoveS at h
  split at h
  · rename_i p1 p2 p3 q0 q1 q2 q3 x y z u v w t
    split at h
    · rename_i hc
      obtain ⟨hp1, hp2, hp3, hq0, hq1, hq2, hq3, hx, hy, hz, hu, hv, hw, ht⟩ := hc
      cases h
      refine ⟨by simp, by (split <;> (try split) <;> simp), by (split <;> (try split) <;> simp), ?_⟩
      by_cases pl : Place p1 p2 p3
      · by_cases tt : TurnP q0 q1 q2 q3
        · by_cases ts : TurnP (sp0 q0 q1 q2 q3 u v w t) (sp1 q0 q1 q2 q3 u v w t) (sp2 q0 q1 q2 q3 u v w t) (sp3 q0 q1 q2 q3 u v w t)
          · by_cases c1 : plI (mvI p1 x t) = mvI p1 x t <;> by_cases c2 : plI (mvI p2 y t) = mvI p2 y t <;> by_cases c3 : plI (mvI p3 z t) = mvI p3 z t <;>
              simp (maxSteps := 10000000) [hp1, hp2, hp3, hq0, hq1, hq2, hq3, hx, hy, hz, hu, hv, hw, ht, mvI_is, plI_is, sp0_is, sp1_is, sp2_is, sp3_is, sp_in, Try.f87, pl, tt, ts, c1, c2, c3]
          · by_cases c1 : plI (mvI p1 x t) = mvI p1 x t <;> by_cases c2 : plI (mvI p2 y t) = mvI p2 y t <;> by_cases c3 : plI (mvI p3 z t) = mvI p3 z t <;>
              simp (maxSteps := 10000000) [hp1, hp2, hp3, hq0, hq1, hq2, hq3, hx, hy, hz, hu, hv, hw, ht, mvI_is, plI_is, sp0_is, sp1_is, sp2_is, sp3_is, sp_in, Try.f87, pl, tt, ts, c1, c2, c3]
        · simp (maxSteps := 10000000) [hp1, hp2, hp3, hq0, hq1, hq2, hq3, Try.f87, pl, tt]
      · simp (maxSteps := 10000000) [hp1, hp2, hp3, hq0, hq1, hq2, hq3, Try.f87, pl]
    · simp at h
  · simp at h

noncomputable def awake11S : List AV → PR
  | [] => .val (.bool true)
  | _ => .fail
@[simp] theorem awake11S_val : awake11S [] = .val (.bool true) := rfl
set_option maxHeartbeats 400000000 in
set_option maxRecDepth 100000 in
theorem awake11_ok : SumOk Try.prog 38 (pureS awake11S) := by
  refine sum_fn (L := fun i => if i = 2 then some (.held 7 [5]) else none) (n := 1) (S := stOf [(86, pureS vec11S), (41, pureS pInS), (87, pureS pMoveS), (40, pureS pOutS)]) drawS Try.T_ok (stOf_ok (by simp [vec11_ok, pIn_ok, pMove_ok, pOut_ok])) Try.func38 rfl (by kernel_rfl) (by kernel_rfl) ?_
    (by intro args v h; unfold awake11S at h; split at h <;> (try split at h) <;> simp at h)
  intro args v h
  unfold awake11S at h
  split at h
  · skip
    cases h
    refine ⟨by simp, by simp, by simp, ?_⟩
    have pl1 : Place 4294967296 8589934592 12884901888 := by unfold Place; decide
    have pl2 : Place 4393751543808 0 0 := by unfold Place; decide
    have t0 : TurnP 0 0 0 4294967296 := by decide
    have t1 : TurnP 4294967296 0 0 0 := by decide
    have s0 : sp0 4294967296 0 0 0 0 0 0 4294967296 = 4294967296 := by decide +kernel
    have s1 : sp1 4294967296 0 0 0 0 0 0 4294967296 = 0 := by decide +kernel
    have s2 : sp2 4294967296 0 0 0 0 0 0 4294967296 = 0 := by decide +kernel
    have s3 : sp3 4294967296 0 0 0 0 0 0 4294967296 = 0 := by decide +kernel
    have g1 : ratI 4294967296 (sq4 4294967296 0 0 0) = 4294967296 := by
      unfold ratI
      rw [if_neg (by decide), show quoI (4294967296 * 4294967296 * 18446744073709551616) (sq4 4294967296 0 0 0) = 18446744073709551616 by decide +kernel]
      exact rootI_of (by decide) (by decide) (by decide)
    have g2 : ratI 0 (sq4 4294967296 0 0 0) = 0 := by
      unfold ratI
      rw [if_neg (by decide), show quoI (0 * 0 * 18446744073709551616) (sq4 4294967296 0 0 0) = 0 by decide +kernel]
      exact rootI_of (by decide) (by decide) (by decide)
    have c1 : clampI 4294967296 = 4294967296 := by decide
    have c2 : clampI 17179869184 = 17179869184 := by decide
    have c3 : clampI (-4294967296) = -4294967296 := by decide
    have c4 : clampI 0 = 0 := by decide
    have i1 : InI 4294967296 := by decide
    have i2 : InI 8589934592 := by decide
    have i3 : InI 12884901888 := by decide
    have i4 : InI 17179869184 := by decide
    have i5 : InI 4393751543808 := by decide
    have i6 : InI 0 := by decide
    have k1 : mvI 4393751543808 8589934592 4294967296 = 4402341478400 := by decide +kernel
    have k2 : mvI 0 0 4294967296 = 0 := by decide +kernel
    have k3 : plI 4402341478400 = 4398046511104 := by decide +kernel
    have k4 : plI 0 = 0 := by decide +kernel
    have m00 : clampI (quoI (r00 0 0 0 4294967296 * 4294967296) (sq4 0 0 0 4294967296)) = -4294967296 := by decide +kernel
    have m01 : clampI (quoI (r01 0 0 0 4294967296 * 4294967296) (sq4 0 0 0 4294967296)) = 0 := by decide +kernel
    have m02 : clampI (quoI (r02 0 0 0 4294967296 * 4294967296) (sq4 0 0 0 4294967296)) = 0 := by decide +kernel
    have m10 : clampI (quoI (r10 0 0 0 4294967296 * 4294967296) (sq4 0 0 0 4294967296)) = 0 := by decide +kernel
    have m11 : clampI (quoI (r11 0 0 0 4294967296 * 4294967296) (sq4 0 0 0 4294967296)) = -4294967296 := by decide +kernel
    have m12 : clampI (quoI (r12 0 0 0 4294967296 * 4294967296) (sq4 0 0 0 4294967296)) = 0 := by decide +kernel
    have m20 : clampI (quoI (r20 0 0 0 4294967296 * 4294967296) (sq4 0 0 0 4294967296)) = 0 := by decide +kernel
    have m21 : clampI (quoI (r21 0 0 0 4294967296 * 4294967296) (sq4 0 0 0 4294967296)) = 0 := by decide +kernel
    have m22 : clampI (quoI (r22 0 0 0 4294967296 * 4294967296) (sq4 0 0 0 4294967296)) = 4294967296 := by decide +kernel
    simp (maxSteps := 10000000) [Try.f38, pl1, pl2, t0, t1, s0, s1, s2, s3, g1, g2, c1, c2, c4, i1, i2, i3, i4, i5, i6, k1, k2, k3, k4, m00, m01, m02, m10, m11, m12, m20, m21, m22]
  · simp at h

noncomputable def close11S : List AV → PR
  | [.agg [.int .i64 x1, .int .i64 x2, .int .i64 x3], .agg [.int .i64 y1, .int .i64 y2, .int .i64 y3]] => open Classical in if -2305843009213693952 ≤ x1 ∧ x1 ≤ 2305843009213693952 ∧ -2305843009213693952 ≤ x2 ∧ x2 ≤ 2305843009213693952 ∧ -2305843009213693952 ≤ x3 ∧ x3 ≤ 2305843009213693952 ∧ -2305843009213693952 ≤ y1 ∧ y1 ≤ 2305843009213693952 ∧ -2305843009213693952 ≤ y2 ∧ y2 ≤ 2305843009213693952 ∧ -2305843009213693952 ≤ y3 ∧ y3 ≤ 2305843009213693952 ∧ x1 - y1 ≤ 1024 ∧ y1 - x1 ≤ 1024 ∧ x2 - y2 ≤ 1024 ∧ y2 - x2 ≤ 1024 ∧ x3 - y3 ≤ 1024 ∧ y3 - x3 ≤ 1024 then .val (.bool true) else .fail
  | _ => .fail
@[simp] theorem close11S_val {x1 x2 x3 y1 y2 y3 : Int} (h : -2305843009213693952 ≤ x1 ∧ x1 ≤ 2305843009213693952 ∧ -2305843009213693952 ≤ x2 ∧ x2 ≤ 2305843009213693952 ∧ -2305843009213693952 ≤ x3 ∧ x3 ≤ 2305843009213693952 ∧ -2305843009213693952 ≤ y1 ∧ y1 ≤ 2305843009213693952 ∧ -2305843009213693952 ≤ y2 ∧ y2 ≤ 2305843009213693952 ∧ -2305843009213693952 ≤ y3 ∧ y3 ≤ 2305843009213693952 ∧ x1 - y1 ≤ 1024 ∧ y1 - x1 ≤ 1024 ∧ x2 - y2 ≤ 1024 ∧ y2 - x2 ≤ 1024 ∧ x3 - y3 ≤ 1024 ∧ y3 - x3 ≤ 1024) : close11S [.agg [.int .i64 x1, .int .i64 x2, .int .i64 x3], .agg [.int .i64 y1, .int .i64 y2, .int .i64 y3]] = .val (.bool true) := if_pos h
set_option maxHeartbeats 4000000 in
theorem close11_ok : SumOk Try.prog 42 (pureS close11S) := by
  refine sum_fn (L := fun _ => none) (n := 1) (S := stOf []) drawS Try.T_ok (stOf_ok (by simp)) Try.func42 rfl (by kernel_rfl) (by kernel_rfl) ?_
    (by intro args v h; unfold close11S at h; split at h <;> (try split at h) <;> simp at h)
  intro args v h
  unfold close11S at h
  split at h
  · rename_i x1 x2 x3 y1 y2 y3
    split at h
    · rename_i hc
      obtain ⟨e0, e1, e2, e3, e4, e5, e6, e7, e8, e9, e10, e11, e12, e13, e14, e15, e16, e17⟩ := hc
      cases h
      refine ⟨by simp, by simp, by simp, ?_⟩
      have wx1 : IntKind.i64.wrap (x1 - y1) = x1 - y1 := wrap_i64_in (by omega) (by omega)
      have ux1 : IntKind.i64.wrap (y1 - x1) = y1 - x1 := wrap_i64_in (by omega) (by omega)
      have wx2 : IntKind.i64.wrap (x2 - y2) = x2 - y2 := wrap_i64_in (by omega) (by omega)
      have ux2 : IntKind.i64.wrap (y2 - x2) = y2 - x2 := wrap_i64_in (by omega) (by omega)
      have wx3 : IntKind.i64.wrap (x3 - y3) = x3 - y3 := wrap_i64_in (by omega) (by omega)
      have ux3 : IntKind.i64.wrap (y3 - x3) = y3 - x3 := wrap_i64_in (by omega) (by omega)
      simp [Try.f42, e12, e13, e14, e15, e16, e17, wx1, ux1, wx2, ux2, wx3, ux3]
    · simp at h
  · simp at h

noncomputable def lawBack11S : List AV → PR
  | [.agg [.int .i64 p1, .int .i64 p2, .int .i64 p3], .agg [.int .i64 q0, .int .i64 q1, .int .i64 q2, .int .i64 q3], .agg [.int .i64 x, .int .i64 y, .int .i64 z]] => open Classical in if InI p1 ∧ InI p2 ∧ InI p3 ∧ InI q0 ∧ InI q1 ∧ InI q2 ∧ InI q3 ∧ InI x ∧ InI y ∧ InI z then .val (.bool true) else .fail
  | _ => .fail
@[simp] theorem lawBack11S_val {p1 p2 p3 q0 q1 q2 q3 x y z : Int} (h : InI p1 ∧ InI p2 ∧ InI p3 ∧ InI q0 ∧ InI q1 ∧ InI q2 ∧ InI q3 ∧ InI x ∧ InI y ∧ InI z) : lawBack11S [.agg [.int .i64 p1, .int .i64 p2, .int .i64 p3], .agg [.int .i64 q0, .int .i64 q1, .int .i64 q2, .int .i64 q3], .agg [.int .i64 x, .int .i64 y, .int .i64 z]] = .val (.bool true) := if_pos h
set_option maxHeartbeats 400000000 in
set_option maxRecDepth 100000 in
theorem lawBack11_ok : SumOk Try.prog 11 (pureS lawBack11S) := by
  refine sum_fn (L := fun _ => none) (n := 1) (S := stOf [(38, pureS awake11S), (42, pureS close11S), (39, pureS pCheckS), (41, pureS pInS), (40, pureS pOutS), (23, pureS qUnitS)]) drawS Try.T_ok (stOf_ok (by simp [awake11_ok, close11_ok, pCheck_ok, pIn_ok, pOut_ok, qUnit_ok])) Try.func11 rfl (by kernel_rfl) (by kernel_rfl) ?_
    (by intro args v h; unfold lawBack11S at h; split at h <;> (try split at h) <;> simp at h)
  intro args v h
  unfold lawBack11S at h
  split at h
  · rename_i p1 p2 p3 q0 q1 q2 q3 x y z
    split at h
    · rename_i hc
      obtain ⟨hp1, hp2, hp3, hq0, hq1, hq2, hq3, hx, hy, hz⟩ := hc
      cases h
      refine ⟨by simp, by simp, by simp, ?_⟩
      by_cases sz : Size3 x y z
      · have sz2 := size_iff.1 sz
        by_cases tt : TurnP q0 q1 q2 q3
        · by_cases pl : Place p1 p2 p3
          · have sp := Turn_pos tt
            obtain ⟨u0, u1, u2, u3, g0, g1, g2, g3, rg0, rg1, rg2, rg3, _, _, _, _, ta, tb⟩ := unit_near sp
            have tu : TurnP u0 u1 u2 u3 := by unfold TurnP; omega
            have tp := Turn_pos tu
            have ju0 := small_InI rg0
            have lu0 := clampI_self ju0
            have ju1 := small_InI rg1
            have lu1 := clampI_self ju1
            have ju2 := small_InI rg2
            have lu2 := clampI_self ju2
            have ju3 := small_InI rg3
            have lu3 := clampI_self ju3
            have qx0 : r00 u0 u1 u2 u3 * r00 u0 u1 u2 u3 + r01 u0 u1 u2 u3 * r01 u0 u1 u2 u3 + r02 u0 u1 u2 u3 * r02 u0 u1 u2 u3 = sq4 u0 u1 u2 u3 * sq4 u0 u1 u2 u3 := by unfold r00 r01 r02 sq4; grind
            obtain ⟨m00, m01, m02, e00, e01, e02, b00, b01, b02, _, _⟩ := row_near tp qx0
            have j00 := small_InI b00
            have l00 := clampI_self j00
            have j01 := small_InI b01
            have l01 := clampI_self j01
            have j02 := small_InI b02
            have l02 := clampI_self j02
            have qx1 : r10 u0 u1 u2 u3 * r10 u0 u1 u2 u3 + r11 u0 u1 u2 u3 * r11 u0 u1 u2 u3 + r12 u0 u1 u2 u3 * r12 u0 u1 u2 u3 = sq4 u0 u1 u2 u3 * sq4 u0 u1 u2 u3 := by unfold r10 r11 r12 sq4; grind
            obtain ⟨m10, m11, m12, e10, e11, e12, b10, b11, b12, _, _⟩ := row_near tp qx1
            have j10 := small_InI b10
            have l10 := clampI_self j10
            have j11 := small_InI b11
            have l11 := clampI_self j11
            have j12 := small_InI b12
            have l12 := clampI_self j12
            have qx2 : r20 u0 u1 u2 u3 * r20 u0 u1 u2 u3 + r21 u0 u1 u2 u3 * r21 u0 u1 u2 u3 + r22 u0 u1 u2 u3 * r22 u0 u1 u2 u3 = sq4 u0 u1 u2 u3 * sq4 u0 u1 u2 u3 := by unfold r20 r21 r22 sq4; grind
            obtain ⟨m20, m21, m22, e20, e21, e22, b20, b21, b22, _, _⟩ := row_near tp qx2
            have j20 := small_InI b20
            have l20 := clampI_self j20
            have j21 := small_InI b21
            have l21 := clampI_self j21
            have j22 := small_InI b22
            have l22 := clampI_self j22
            have qy0 : r00 u0 u1 u2 u3 * r00 u0 u1 u2 u3 + r10 u0 u1 u2 u3 * r10 u0 u1 u2 u3 + r20 u0 u1 u2 u3 * r20 u0 u1 u2 u3 = sq4 u0 u1 u2 u3 * sq4 u0 u1 u2 u3 := by unfold r00 r10 r20 sq4; grind
            obtain ⟨n00, n10, n20, f00, f10, f20, _, _, _, na0, nb0⟩ := row_near tp qy0
            have t00 : n00 = m00 := by rw [← f00, ← e00]
            have t10 : n10 = m10 := by rw [← f10, ← e10]
            have t20 : n20 = m20 := by rw [← f20, ← e20]
            rw [t00, t10, t20] at na0 nb0
            have qy1 : r01 u0 u1 u2 u3 * r01 u0 u1 u2 u3 + r11 u0 u1 u2 u3 * r11 u0 u1 u2 u3 + r21 u0 u1 u2 u3 * r21 u0 u1 u2 u3 = sq4 u0 u1 u2 u3 * sq4 u0 u1 u2 u3 := by unfold r01 r11 r21 sq4; grind
            obtain ⟨n01, n11, n21, f01, f11, f21, _, _, _, na1, nb1⟩ := row_near tp qy1
            have t01 : n01 = m01 := by rw [← f01, ← e01]
            have t11 : n11 = m11 := by rw [← f11, ← e11]
            have t21 : n21 = m21 := by rw [← f21, ← e21]
            rw [t01, t11, t21] at na1 nb1
            have qy2 : r02 u0 u1 u2 u3 * r02 u0 u1 u2 u3 + r12 u0 u1 u2 u3 * r12 u0 u1 u2 u3 + r22 u0 u1 u2 u3 * r22 u0 u1 u2 u3 = sq4 u0 u1 u2 u3 * sq4 u0 u1 u2 u3 := by unfold r02 r12 r22 sq4; grind
            obtain ⟨n02, n12, n22, f02, f12, f22, _, _, _, na2, nb2⟩ := row_near tp qy2
            have t02 : n02 = m02 := by rw [← f02, ← e02]
            have t12 : n12 = m12 := by rw [← f12, ← e12]
            have t22 : n22 = m22 := by rw [← f22, ← e22]
            rw [t02, t12, t22] at na2 nb2
            have z01 : r00 u0 u1 u2 u3 * r01 u0 u1 u2 u3 + r10 u0 u1 u2 u3 * r11 u0 u1 u2 u3 + r20 u0 u1 u2 u3 * r21 u0 u1 u2 u3 = 0 := by unfold r00 r01 r10 r11 r20 r21; grind
            have c01 := cross_near tp qy0 qy1 z01 e00 e10 e20 e01 e11 e21
            have z02 : r00 u0 u1 u2 u3 * r02 u0 u1 u2 u3 + r10 u0 u1 u2 u3 * r12 u0 u1 u2 u3 + r20 u0 u1 u2 u3 * r22 u0 u1 u2 u3 = 0 := by unfold r00 r02 r10 r12 r20 r22; grind
            have c02 := cross_near tp qy0 qy2 z02 e00 e10 e20 e02 e12 e22
            have z10 : r01 u0 u1 u2 u3 * r00 u0 u1 u2 u3 + r11 u0 u1 u2 u3 * r10 u0 u1 u2 u3 + r21 u0 u1 u2 u3 * r20 u0 u1 u2 u3 = 0 := by unfold r01 r00 r11 r10 r21 r20; grind
            have c10 := cross_near tp qy1 qy0 z10 e01 e11 e21 e00 e10 e20
            have z12 : r01 u0 u1 u2 u3 * r02 u0 u1 u2 u3 + r11 u0 u1 u2 u3 * r12 u0 u1 u2 u3 + r21 u0 u1 u2 u3 * r22 u0 u1 u2 u3 = 0 := by unfold r01 r02 r11 r12 r21 r22; grind
            have c12 := cross_near tp qy1 qy2 z12 e01 e11 e21 e02 e12 e22
            have z20 : r02 u0 u1 u2 u3 * r00 u0 u1 u2 u3 + r12 u0 u1 u2 u3 * r10 u0 u1 u2 u3 + r22 u0 u1 u2 u3 * r20 u0 u1 u2 u3 = 0 := by unfold r02 r00 r12 r10 r22 r20; grind
            have c20 := cross_near tp qy2 qy0 z20 e02 e12 e22 e00 e10 e20
            have z21 : r02 u0 u1 u2 u3 * r01 u0 u1 u2 u3 + r12 u0 u1 u2 u3 * r11 u0 u1 u2 u3 + r22 u0 u1 u2 u3 * r21 u0 u1 u2 u3 = 0 := by unfold r02 r01 r12 r11 r22 r21; grind
            have c21 := cross_near tp qy2 qy1 z21 e02 e12 e22 e01 e11 e21
            obtain ⟨hx3, hy3, hz3⟩ := id sz
            obtain ⟨pa, pb, pc⟩ := id pl
            obtain ⟨w0, hw0⟩ : ∃ c, (m00 * x + m01 * y + m02 * z) / 4294967296 = c := ⟨_, rfl⟩
            have ow0 := out_range b00 b01 b02 hx3 hy3 hz3
            rw [hw0] at ow0
            obtain ⟨A0, hA0⟩ : ∃ c, (p1 * 4294967296 + m00 * x + m01 * y + m02 * z) / 4294967296 = c := ⟨_, rfl⟩
            have dA0 : A0 - p1 = w0 := by omega
            have jA0 : InI A0 := by unfold InI; omega
            have lA0 := clampI_self jA0
            obtain ⟨w1, hw1⟩ : ∃ c, (m10 * x + m11 * y + m12 * z) / 4294967296 = c := ⟨_, rfl⟩
            have ow1 := out_range b10 b11 b12 hx3 hy3 hz3
            rw [hw1] at ow1
            obtain ⟨A1, hA1⟩ : ∃ c, (p2 * 4294967296 + m10 * x + m11 * y + m12 * z) / 4294967296 = c := ⟨_, rfl⟩
            have dA1 : A1 - p2 = w1 := by omega
            have jA1 : InI A1 := by unfold InI; omega
            have lA1 := clampI_self jA1
            obtain ⟨w2, hw2⟩ : ∃ c, (m20 * x + m21 * y + m22 * z) / 4294967296 = c := ⟨_, rfl⟩
            have ow2 := out_range b20 b21 b22 hx3 hy3 hz3
            rw [hw2] at ow2
            obtain ⟨A2, hA2⟩ : ∃ c, (p3 * 4294967296 + m20 * x + m21 * y + m22 * z) / 4294967296 = c := ⟨_, rfl⟩
            have dA2 : A2 - p3 = w2 := by omega
            have jA2 : InI A2 := by unfold InI; omega
            have lA2 := clampI_self jA2
            obtain ⟨B0, hB0⟩ : ∃ c, (m00 * w0 + m10 * w1 + m20 * w2) / 4294967296 = c := ⟨_, rfl⟩
            have o0 := back_near b00 b10 b20 ⟨na0, nb0⟩ c01 c02 hx3 hy3 hz3 (t1 := m00 * x + m01 * y + m02 * z) (t2 := m10 * x + m11 * y + m12 * z) (t3 := m20 * x + m21 * y + m22 * z) (by omega) (by omega) (by omega) hw0 hw1 hw2 hB0
            have jB0 : InI B0 := by unfold InI; omega
            have lB0 := clampI_self jB0
            have s0a := o0.1
            have s0b := o0.2
            have i0a : -2305843009213693952 ≤ B0 := by omega
            have i0b : B0 ≤ 2305843009213693952 := by omega
            have v0a : -2305843009213693952 ≤ x := by omega
            have v0b : x ≤ 2305843009213693952 := by omega
            obtain ⟨B1, hB1⟩ : ∃ c, (m01 * w0 + m11 * w1 + m21 * w2) / 4294967296 = c := ⟨_, rfl⟩
            have o1 := back_near b01 b11 b21 ⟨na1, nb1⟩ c10 c12 hy3 hx3 hz3 (t1 := m00 * x + m01 * y + m02 * z) (t2 := m10 * x + m11 * y + m12 * z) (t3 := m20 * x + m21 * y + m22 * z) (by omega) (by omega) (by omega) hw0 hw1 hw2 hB1
            have jB1 : InI B1 := by unfold InI; omega
            have lB1 := clampI_self jB1
            have s1a := o1.1
            have s1b := o1.2
            have i1a : -2305843009213693952 ≤ B1 := by omega
            have i1b : B1 ≤ 2305843009213693952 := by omega
            have v1a : -2305843009213693952 ≤ y := by omega
            have v1b : y ≤ 2305843009213693952 := by omega
            obtain ⟨B2, hB2⟩ : ∃ c, (m02 * w0 + m12 * w1 + m22 * w2) / 4294967296 = c := ⟨_, rfl⟩
            have o2 := back_near b02 b12 b22 ⟨na2, nb2⟩ c20 c21 hz3 hx3 hy3 (t1 := m00 * x + m01 * y + m02 * z) (t2 := m10 * x + m11 * y + m12 * z) (t3 := m20 * x + m21 * y + m22 * z) (by omega) (by omega) (by omega) hw0 hw1 hw2 hB2
            have jB2 : InI B2 := by unfold InI; omega
            have lB2 := clampI_self jB2
            have s2a := o2.1
            have s2b := o2.2
            have i2a : -2305843009213693952 ≤ B2 := by omega
            have i2b : B2 ≤ 2305843009213693952 := by omega
            have v2a : -2305843009213693952 ≤ z := by omega
            have v2b : z ≤ 2305843009213693952 := by omega
            simp (maxSteps := 10000000) [hp1, hp2, hp3, hq0, hq1, hq2, hq3, hx, hy, hz, max3_is, min3_is, Try.f11, sz2.1, sz2.2, tt, pl, tu, g0, g1, g2, g3, ju0, lu0, ju1, lu1, ju2, lu2, ju3, lu3, e00, l00, e01, l01, e02, l02, e10, l10, e11, l11, e12, l12, e20, l20, e21, l21, e22, l22, hA0, dA0, jA0, lA0, hA1, dA1, jA1, lA1, hA2, dA2, jA2, lA2, hB0, lB0, s0a, s0b, i0a, i0b, v0a, v0b, hB1, lB1, s1a, s1b, i1a, i1b, v1a, v1b, hB2, lB2, s2a, s2b, i2a, i2b, v2a, v2b]
          · simp (maxSteps := 10000000) [hp1, hp2, hp3, hq0, hq1, hq2, hq3, max3_is, min3_is, InI_clamp, Try.f11, sz2.1, sz2.2, tt, pl]
        · simp (maxSteps := 10000000) [hq0, hq1, hq2, hq3, max3_is, min3_is, Try.f11, sz2.1, sz2.2, tt]
      · have sz2 : 274877906944 < max3 x y z ∨ min3 x y z < -274877906944 := by
          rw [size_iff] at sz; omega
        rcases Decidable.em (274877906944 < max3 x y z) with k1 | k1
        · simp (maxSteps := 10000000) [max3_is, Try.f11, k1]
        · have k2 := sz2.resolve_left k1
          simp (maxSteps := 10000000) [max3_is, min3_is, Try.f11, k1, k2]
    · simp at h
  · simp at h

end Go.X
