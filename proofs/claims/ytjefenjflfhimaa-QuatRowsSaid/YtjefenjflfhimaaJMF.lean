/- The reference's inverse; what is always told of matrices; solving, in package mat. -/
import Derived.Test.YtjefenjflfhimaaJME
namespace Go.X
open Go.Proofs
attribute [local irreducible] Good
attribute [simp] Try.T_89
theorem InI_one : InI 4294967296 := by decide
theorem InI_zero : InI 0 := by decide

noncomputable def r4invS : List AV → PR
  | [.agg [.int .i64 a1, .int .i64 a2, .int .i64 a3, .int .i64 b1, .int .i64 b2, .int .i64 b3, .int .i64 c1, .int .i64 c2, .int .i64 c3]] => open Classical in if InI a1 ∧ InI a2 ∧ InI a3 ∧ InI b1 ∧ InI b2 ∧ InI b3 ∧ InI c1 ∧ InI c2 ∧ InI c3 then .val (if detI a1 a2 a3 b1 b2 b3 c1 c2 c3 = 0 then .tup [.agg [.int .i64 0, .int .i64 0, .int .i64 0, .int .i64 0, .int .i64 0, .int .i64 0, .int .i64 0, .int .i64 0, .int .i64 0], .bool false] else .tup [.agg [.int .i64 (clampI (quoI ((b2 * c3 - b3 * c2) * 2 ^ 64) (detI a1 a2 a3 b1 b2 b3 c1 c2 c3))), .int .i64 (clampI (quoI ((c2 * a3 - c3 * a2) * 2 ^ 64) (detI a1 a2 a3 b1 b2 b3 c1 c2 c3))), .int .i64 (clampI (quoI ((a2 * b3 - a3 * b2) * 2 ^ 64) (detI a1 a2 a3 b1 b2 b3 c1 c2 c3))), .int .i64 (clampI (quoI ((b3 * c1 - b1 * c3) * 2 ^ 64) (detI a1 a2 a3 b1 b2 b3 c1 c2 c3))), .int .i64 (clampI (quoI ((c3 * a1 - c1 * a3) * 2 ^ 64) (detI a1 a2 a3 b1 b2 b3 c1 c2 c3))), .int .i64 (clampI (quoI ((a3 * b1 - a1 * b3) * 2 ^ 64) (detI a1 a2 a3 b1 b2 b3 c1 c2 c3))), .int .i64 (clampI (quoI ((b1 * c2 - b2 * c1) * 2 ^ 64) (detI a1 a2 a3 b1 b2 b3 c1 c2 c3))), .int .i64 (clampI (quoI ((c1 * a2 - c2 * a1) * 2 ^ 64) (detI a1 a2 a3 b1 b2 b3 c1 c2 c3))), .int .i64 (clampI (quoI ((a1 * b2 - a2 * b1) * 2 ^ 64) (detI a1 a2 a3 b1 b2 b3 c1 c2 c3)))], .bool true]) else .fail
  | _ => .fail
@[simp] theorem r4invS_val {a1 a2 a3 b1 b2 b3 c1 c2 c3 : Int} (h : InI a1 ∧ InI a2 ∧ InI a3 ∧ InI b1 ∧ InI b2 ∧ InI b3 ∧ InI c1 ∧ InI c2 ∧ InI c3) : r4invS [.agg [.int .i64 a1, .int .i64 a2, .int .i64 a3, .int .i64 b1, .int .i64 b2, .int .i64 b3, .int .i64 c1, .int .i64 c2, .int .i64 c3]] = .val (if detI a1 a2 a3 b1 b2 b3 c1 c2 c3 = 0 then .tup [.agg [.int .i64 0, .int .i64 0, .int .i64 0, .int .i64 0, .int .i64 0, .int .i64 0, .int .i64 0, .int .i64 0, .int .i64 0], .bool false] else .tup [.agg [.int .i64 (clampI (quoI ((b2 * c3 - b3 * c2) * 2 ^ 64) (detI a1 a2 a3 b1 b2 b3 c1 c2 c3))), .int .i64 (clampI (quoI ((c2 * a3 - c3 * a2) * 2 ^ 64) (detI a1 a2 a3 b1 b2 b3 c1 c2 c3))), .int .i64 (clampI (quoI ((a2 * b3 - a3 * b2) * 2 ^ 64) (detI a1 a2 a3 b1 b2 b3 c1 c2 c3))), .int .i64 (clampI (quoI ((b3 * c1 - b1 * c3) * 2 ^ 64) (detI a1 a2 a3 b1 b2 b3 c1 c2 c3))), .int .i64 (clampI (quoI ((c3 * a1 - c1 * a3) * 2 ^ 64) (detI a1 a2 a3 b1 b2 b3 c1 c2 c3))), .int .i64 (clampI (quoI ((a3 * b1 - a1 * b3) * 2 ^ 64) (detI a1 a2 a3 b1 b2 b3 c1 c2 c3))), .int .i64 (clampI (quoI ((b1 * c2 - b2 * c1) * 2 ^ 64) (detI a1 a2 a3 b1 b2 b3 c1 c2 c3))), .int .i64 (clampI (quoI ((c1 * a2 - c2 * a1) * 2 ^ 64) (detI a1 a2 a3 b1 b2 b3 c1 c2 c3))), .int .i64 (clampI (quoI ((a1 * b2 - a2 * b1) * 2 ^ 64) (detI a1 a2 a3 b1 b2 b3 c1 c2 c3)))], .bool true]) := if_pos h
set_option maxHeartbeats 4000000 in
theorem r4inv_ok : SumOk Try.prog 31 (pureS r4invS) := by
  refine sum_fn (L := fun _ => none) (n := 1) (S := stOf [(79, pureS r4rowsS), (33, pureS r4solveS), (38, pureS r4turnedS)]) drawS Try.T_ok (stOf_ok (by simp [r4rows_ok, r4solve_ok, r4turned_ok])) Try.func31 rfl (by kernel_rfl) (by kernel_rfl) ?_
    (by intro args v h; unfold r4invS at h; split at h <;> (try split at h) <;> simp at h)
  intro args v h
  unfold r4invS at h
  split at h
  · rename_i a1 a2 a3 b1 b2 b3 c1 c2 c3
    split at h
    · rename_i hc
      obtain ⟨ha1, ha2, ha3, hb1, hb2, hb3, hc1, hc2, hc3⟩ := hc
      cases h
      refine ⟨by simp, by (split <;> simp), by (split <;> simp), ?_⟩
      have e0 : detI 4294967296 a2 a3 0 b2 b3 0 c2 c3 * 4294967296 = (b2 * c3 - b3 * c2) * 18446744073709551616 := by unfold detI; grind
      have e1 : detI 0 a2 a3 4294967296 b2 b3 0 c2 c3 * 4294967296 = (c2 * a3 - c3 * a2) * 18446744073709551616 := by unfold detI; grind
      have e2 : detI 0 a2 a3 0 b2 b3 4294967296 c2 c3 * 4294967296 = (a2 * b3 - a3 * b2) * 18446744073709551616 := by unfold detI; grind
      have e3 : detI a1 4294967296 a3 b1 0 b3 c1 0 c3 * 4294967296 = (b3 * c1 - b1 * c3) * 18446744073709551616 := by unfold detI; grind
      have e4 : detI a1 0 a3 b1 4294967296 b3 c1 0 c3 * 4294967296 = (c3 * a1 - c1 * a3) * 18446744073709551616 := by unfold detI; grind
      have e5 : detI a1 0 a3 b1 0 b3 c1 4294967296 c3 * 4294967296 = (a3 * b1 - a1 * b3) * 18446744073709551616 := by unfold detI; grind
      have e6 : detI a1 a2 4294967296 b1 b2 0 c1 c2 0 * 4294967296 = (b1 * c2 - b2 * c1) * 18446744073709551616 := by unfold detI; grind
      have e7 : detI a1 a2 0 b1 b2 4294967296 c1 c2 0 * 4294967296 = (c1 * a2 - c2 * a1) * 18446744073709551616 := by unfold detI; grind
      have e8 : detI a1 a2 0 b1 b2 0 c1 c2 4294967296 * 4294967296 = (a1 * b2 - a2 * b1) * 18446744073709551616 := by unfold detI; grind
      by_cases hd : detI a1 a2 a3 b1 b2 b3 c1 c2 c3 = 0
      · simp [ha1, ha2, ha3, hb1, hb2, hb3, hc1, hc2, hc3, InI_one, InI_zero, Try.f31, hd]
      · simp [ha1, ha2, ha3, hb1, hb2, hb3, hc1, hc2, hc3, InI_one, InI_zero, Try.f31, hd, e0, e1, e2, e3, e4, e5, e6, e7, e8]
    · simp at h
  · simp at h

noncomputable def awake4S : List AV → PR
  | [] => .val (.bool true)
  | _ => .fail
@[simp] theorem awake4S_val : awake4S [] = .val (.bool true) := rfl
set_option maxHeartbeats 4000000 in
theorem awake4_ok : SumOk Try.prog 24 (pureS awake4S) := by
  refine sum_fn (L := fun _ => none) (n := 1) (S := stOf [(39, pureS mapplyS), (22, pureS mDetS), (35, pureS mdiagS), (30, pureS mInverseS), (25, pureS moneS), (34, pureS r4diagS)]) drawS Try.T_ok (stOf_ok (by simp [mapply_ok, mDet_ok, mdiag_ok, mInverse_ok, mone_ok, r4diag_ok])) Try.func24 rfl (by kernel_rfl) (by kernel_rfl) ?_
    (by intro args v h; unfold awake4S at h; split at h <;> (try split at h) <;> simp at h)
  intro args v h
  unfold awake4S at h
  split at h
  · skip
    cases h
    refine ⟨by simp, by simp, by simp, ?_⟩
    simp [Try.f24, detI, quoI, clampI, InI]
  · simp at h

noncomputable def lawMatDetS : List AV → PR
  | [.agg [.int .i64 a1, .int .i64 a2, .int .i64 a3, .int .i64 b1, .int .i64 b2, .int .i64 b3, .int .i64 c1, .int .i64 c2, .int .i64 c3]] => open Classical in if InI a1 ∧ InI a2 ∧ InI a3 ∧ InI b1 ∧ InI b2 ∧ InI b3 ∧ InI c1 ∧ InI c2 ∧ InI c3 then .val (.bool true) else .fail
  | _ => .fail
@[simp] theorem lawMatDetS_val {a1 a2 a3 b1 b2 b3 c1 c2 c3 : Int} (h : InI a1 ∧ InI a2 ∧ InI a3 ∧ InI b1 ∧ InI b2 ∧ InI b3 ∧ InI c1 ∧ InI c2 ∧ InI c3) : lawMatDetS [.agg [.int .i64 a1, .int .i64 a2, .int .i64 a3, .int .i64 b1, .int .i64 b2, .int .i64 b3, .int .i64 c1, .int .i64 c2, .int .i64 c3]] = .val (.bool true) := if_pos h
theorem lawMatDet_ok : SumOk Try.prog 3 (pureS lawMatDetS) := by
  refine sum_fn (L := fun _ => none) (n := 1) (S := stOf [(22, pureS mDetS), (24, pureS awake4S), (23, pureS r4detS)]) drawS Try.T_ok (stOf_ok (by simp [mDet_ok, awake4_ok, r4det_ok])) Try.func3 rfl (by kernel_rfl) (by kernel_rfl) ?_
    (by intro args v h; unfold lawMatDetS at h; split at h <;> (try split at h) <;> simp at h)
  intro args v h
  unfold lawMatDetS at h
  split at h
  · rename_i a1 a2 a3 b1 b2 b3 c1 c2 c3
    split at h
    · rename_i hc
      obtain ⟨ha1, ha2, ha3, hb1, hb2, hb3, hc1, hc2, hc3⟩ := hc
      cases h
      refine ⟨by simp, by simp, by simp, ?_⟩
      simp [Try.f3, ha1, ha2, ha3, hb1, hb2, hb3, hc1, hc2, hc3]
    · simp at h
  · simp at h

noncomputable def mSolveS : List AV → PR
  | [.agg [.int .i64 a1, .int .i64 a2, .int .i64 a3, .int .i64 b1, .int .i64 b2, .int .i64 b3, .int .i64 c1, .int .i64 c2, .int .i64 c3], .agg [.int .i64 x, .int .i64 y, .int .i64 z]] => open Classical in if InI a1 ∧ InI a2 ∧ InI a3 ∧ InI b1 ∧ InI b2 ∧ InI b3 ∧ InI c1 ∧ InI c2 ∧ InI c3 ∧ InI x ∧ InI y ∧ InI z then .val (if detI a1 a2 a3 b1 b2 b3 c1 c2 c3 = 0 then .tup [.agg [.int .i64 0, .int .i64 0, .int .i64 0], .bool false] else .tup [.agg [.int .i64 (clampI (quoI (detI x a2 a3 y b2 b3 z c2 c3 * 2 ^ 32) (detI a1 a2 a3 b1 b2 b3 c1 c2 c3))), .int .i64 (clampI (quoI (detI a1 x a3 b1 y b3 c1 z c3 * 2 ^ 32) (detI a1 a2 a3 b1 b2 b3 c1 c2 c3))), .int .i64 (clampI (quoI (detI a1 a2 x b1 b2 y c1 c2 z * 2 ^ 32) (detI a1 a2 a3 b1 b2 b3 c1 c2 c3)))], .bool true]) else .fail
  | _ => .fail
@[simp] theorem mSolveS_val {a1 a2 a3 b1 b2 b3 c1 c2 c3 x y z : Int} (h : InI a1 ∧ InI a2 ∧ InI a3 ∧ InI b1 ∧ InI b2 ∧ InI b3 ∧ InI c1 ∧ InI c2 ∧ InI c3 ∧ InI x ∧ InI y ∧ InI z) : mSolveS [.agg [.int .i64 a1, .int .i64 a2, .int .i64 a3, .int .i64 b1, .int .i64 b2, .int .i64 b3, .int .i64 c1, .int .i64 c2, .int .i64 c3], .agg [.int .i64 x, .int .i64 y, .int .i64 z]] = .val (if detI a1 a2 a3 b1 b2 b3 c1 c2 c3 = 0 then .tup [.agg [.int .i64 0, .int .i64 0, .int .i64 0], .bool false] else .tup [.agg [.int .i64 (clampI (quoI (detI x a2 a3 y b2 b3 z c2 c3 * 2 ^ 32) (detI a1 a2 a3 b1 b2 b3 c1 c2 c3))), .int .i64 (clampI (quoI (detI a1 x a3 b1 y b3 c1 z c3 * 2 ^ 32) (detI a1 a2 a3 b1 b2 b3 c1 c2 c3))), .int .i64 (clampI (quoI (detI a1 a2 x b1 b2 y c1 c2 z * 2 ^ 32) (detI a1 a2 a3 b1 b2 b3 c1 c2 c3)))], .bool true]) := if_pos h
set_option maxHeartbeats 40000000 in
theorem mSolve_ok : SumOk Try.prog 32 (pureS mSolveS) := by
  refine sum_fn (L := fun i => if i = 11 then some (.quiet 18) else none) (n := 5) (S := stOf [(64, pureS mrawsS), (67, pureS mminorsS), (66, pureS mdet0S), (75, pureS signS), (70, pureS mrawS), (73, pureS mtimesS), (72, pureS mplusS), (77, pureS shlS), (78, pureS moverS)]) drawS Try.T_ok (stOf_ok (by simp [mraws_ok, mminors_ok, mdet0_ok, sign_ok, mraw_ok, mtimes_ok, mplus_ok, shl_ok, mover_ok])) Try.func32 rfl (by kernel_rfl) (by kernel_rfl) ?_
    (by intro args v h; unfold mSolveS at h; split at h <;> (try split at h) <;> simp at h)
  intro args v h
  unfold mSolveS at h
  split at h
  · rename_i a1 a2 a3 b1 b2 b3 c1 c2 c3 x y z
    split at h
    · rename_i hc
      obtain ⟨ha1, ha2, ha3, hb1, hb2, hb3, hc1, hc2, hc3, hx, hy, hz⟩ := hc
      cases h
      refine ⟨by simp, by (split <;> simp), by (split <;> simp), ?_⟩
      have u : Bd 192 (detI a1 a2 a3 b1 b2 b3 c1 c2 c3) := Bd.det (Bd.of ha1) (Bd.of ha2) (Bd.of ha3) (Bd.of hb1) (Bd.of hb2) (Bd.of hb3) (Bd.of hc1) (Bd.of hc2) (Bd.of hc3)
      have i := u.w (by decide)
      have si := sval_limb i
      have ed : a1 * (b2 * c3 - b3 * c2) + a2 * (b3 * c1 - b1 * c3) + a3 * (b1 * c2 - b2 * c1) = detI a1 a2 a3 b1 b2 b3 c1 c2 c3 := rfl
      have j0 : Bd 127 (b2 * c3 - b3 * c2) := (Bd.of hb2).minor (Bd.of hc3) (Bd.of hb3) (Bd.of hc2)
      have w0 := j0.w (by decide)
      have s0 := sval_limb w0
      have j1 : Bd 127 (c2 * a3 - c3 * a2) := (Bd.of hc2).minor (Bd.of ha3) (Bd.of hc3) (Bd.of ha2)
      have w1 := j1.w (by decide)
      have s1 := sval_limb w1
      have j2 : Bd 127 (a2 * b3 - a3 * b2) := (Bd.of ha2).minor (Bd.of hb3) (Bd.of ha3) (Bd.of hb2)
      have w2 := j2.w (by decide)
      have s2 := sval_limb w2
      have j3 : Bd 127 (b3 * c1 - b1 * c3) := (Bd.of hb3).minor (Bd.of hc1) (Bd.of hb1) (Bd.of hc3)
      have w3 := j3.w (by decide)
      have s3 := sval_limb w3
      have j4 : Bd 127 (c3 * a1 - c1 * a3) := (Bd.of hc3).minor (Bd.of ha1) (Bd.of hc1) (Bd.of ha3)
      have w4 := j4.w (by decide)
      have s4 := sval_limb w4
      have j5 : Bd 127 (a3 * b1 - a1 * b3) := (Bd.of ha3).minor (Bd.of hb1) (Bd.of ha1) (Bd.of hb3)
      have w5 := j5.w (by decide)
      have s5 := sval_limb w5
      have j6 : Bd 127 (b1 * c2 - b2 * c1) := (Bd.of hb1).minor (Bd.of hc2) (Bd.of hb2) (Bd.of hc1)
      have w6 := j6.w (by decide)
      have s6 := sval_limb w6
      have j7 : Bd 127 (c1 * a2 - c2 * a1) := (Bd.of hc1).minor (Bd.of ha2) (Bd.of hc2) (Bd.of ha1)
      have w7 := j7.w (by decide)
      have s7 := sval_limb w7
      have j8 : Bd 127 (a1 * b2 - a2 * b1) := (Bd.of ha1).minor (Bd.of hb2) (Bd.of ha2) (Bd.of hb1)
      have w8 := j8.w (by decide)
      have s8 := sval_limb w8
      have t00 : Bd 190 ((b2 * c3 - b3 * c2) * x) := j0.mul (Bd.of hx)
      have t01 : Bd 190 ((c2 * a3 - c3 * a2) * y) := j1.mul (Bd.of hy)
      have t02 : Bd 190 ((a2 * b3 - a3 * b2) * z) := j2.mul (Bd.of hz)
      have i00 := t00.w (by decide)
      have i01 := t01.w (by decide)
      have i02 := t02.w (by decide)
      have a4 := t00.add t01
      have d0 := a4.w (by decide)
      have g0 : (b2 * c3 - b3 * c2) * x + (c2 * a3 - c3 * a2) * y + (a2 * b3 - a3 * b2) * z = detI x a2 a3 y b2 b3 z c2 c3 := by unfold detI; grind
      have u0 : Bd 192 (detI x a2 a3 y b2 b3 z c2 c3) := Bd.det (Bd.of hx) (Bd.of ha2) (Bd.of ha3) (Bd.of hy) (Bd.of hb2) (Bd.of hb3) (Bd.of hz) (Bd.of hc2) (Bd.of hc3)
      have k0 := u0.w (by decide)
      have y0 : Bd 224 (detI x a2 a3 y b2 b3 z c2 c3 * 4294967296) := by simpa using u0.shl 32
      have p0 := y0.w (by decide)
      have t10 : Bd 190 ((b3 * c1 - b1 * c3) * x) := j3.mul (Bd.of hx)
      have t11 : Bd 190 ((c3 * a1 - c1 * a3) * y) := j4.mul (Bd.of hy)
      have t12 : Bd 190 ((a3 * b1 - a1 * b3) * z) := j5.mul (Bd.of hz)
      have i10 := t10.w (by decide)
      have i11 := t11.w (by decide)
      have i12 := t12.w (by decide)
      have a5 := t10.add t11
      have d1 := a5.w (by decide)
      have g1 : (b3 * c1 - b1 * c3) * x + (c3 * a1 - c1 * a3) * y + (a3 * b1 - a1 * b3) * z = detI a1 x a3 b1 y b3 c1 z c3 := by unfold detI; grind
      have u1 : Bd 192 (detI a1 x a3 b1 y b3 c1 z c3) := Bd.det (Bd.of ha1) (Bd.of hx) (Bd.of ha3) (Bd.of hb1) (Bd.of hy) (Bd.of hb3) (Bd.of hc1) (Bd.of hz) (Bd.of hc3)
      have k1 := u1.w (by decide)
      have y1 : Bd 224 (detI a1 x a3 b1 y b3 c1 z c3 * 4294967296) := by simpa using u1.shl 32
      have p1 := y1.w (by decide)
      have t20 : Bd 190 ((b1 * c2 - b2 * c1) * x) := j6.mul (Bd.of hx)
      have t21 : Bd 190 ((c1 * a2 - c2 * a1) * y) := j7.mul (Bd.of hy)
      have t22 : Bd 190 ((a1 * b2 - a2 * b1) * z) := j8.mul (Bd.of hz)
      have i20 := t20.w (by decide)
      have i21 := t21.w (by decide)
      have i22 := t22.w (by decide)
      have a6 := t20.add t21
      have d2 := a6.w (by decide)
      have g2 : (b1 * c2 - b2 * c1) * x + (c1 * a2 - c2 * a1) * y + (a1 * b2 - a2 * b1) * z = detI a1 a2 x b1 b2 y c1 c2 z := by unfold detI; grind
      have u2 : Bd 192 (detI a1 a2 x b1 b2 y c1 c2 z) := Bd.det (Bd.of ha1) (Bd.of ha2) (Bd.of hx) (Bd.of hb1) (Bd.of hb2) (Bd.of hy) (Bd.of hc1) (Bd.of hc2) (Bd.of hz)
      have k2 := u2.w (by decide)
      have y2 : Bd 224 (detI a1 a2 x b1 b2 y c1 c2 z * 4294967296) := by simpa using u2.shl 32
      have p2 := y2.w (by decide)
      by_cases hd : detI a1 a2 a3 b1 b2 b3 c1 c2 c3 = 0
      · simp (maxSteps := 10000000) [ha1, ha2, ha3, hb1, hb2, hb3, hc1, hc2, hc3, fitI ha1, fitI ha2, fitI ha3, fitI hb1, fitI hb2, fitI hb3, fitI hc1, fitI hc2, fitI hc3, R8_limb, Bd.of ha1, Bd.of ha2, Bd.of ha3, Bd.of hb1, Bd.of hb2, Bd.of hb3, Bd.of hc1, Bd.of hc2, Bd.of hc3, ed, j0, s0, j3, s3, j6, s6, Try.f32, hd]
      · have sg0 : ¬ sgnI (detI a1 a2 a3 b1 b2 b3 c1 c2 c3) = 0 := fun e => hd (sgnI_zero.1 e)
        have q0 := y0.quo (by decide) hd
        have q1 := y1.quo (by decide) hd
        have q2 := y2.quo (by decide) hd
        simp (maxSteps := 10000000) [ha1, ha2, ha3, hb1, hb2, hb3, hc1, hc2, hc3, hx, hy, hz, fitI ha1, fitI ha2, fitI ha3, fitI hb1, fitI hb2, fitI hb3, fitI hc1, fitI hc2, fitI hc3, fitI hx, fitI hy, fitI hz, R8_limb, Bd.of ha1, Bd.of ha2, Bd.of ha3, Bd.of hb1, Bd.of hb2, Bd.of hb3, Bd.of hc1, Bd.of hc2, Bd.of hc3, si, ed, j0, s0, s1, s2, j3, s3, s4, s5, j6, s6, s7, s8, i00, sval_limb i00, i01, sval_limb i01, i02, sval_limb i02, i10, sval_limb i10, i11, sval_limb i11, i12, sval_limb i12, i20, sval_limb i20, i21, sval_limb i21, i22, sval_limb i22, d0, sval_limb d0, g0, k0, sval_limb k0, p0, sval_limb p0, d1, sval_limb d1, g1, k1, sval_limb k1, p1, sval_limb p1, d2, sval_limb d2, g2, k2, sval_limb k2, p2, sval_limb p2, Try.f32, hd, sg0, shlV, fitV, q0, q1, q2]
    · simp at h
  · simp at h

noncomputable def lawMatInvS : List AV → PR
  | [.agg [.int .i64 a1, .int .i64 a2, .int .i64 a3, .int .i64 b1, .int .i64 b2, .int .i64 b3, .int .i64 c1, .int .i64 c2, .int .i64 c3], .agg [.int .i64 x, .int .i64 y, .int .i64 z]] => open Classical in if InI a1 ∧ InI a2 ∧ InI a3 ∧ InI b1 ∧ InI b2 ∧ InI b3 ∧ InI c1 ∧ InI c2 ∧ InI c3 ∧ InI x ∧ InI y ∧ InI z then .val (.bool true) else .fail
  | _ => .fail
@[simp] theorem lawMatInvS_val {a1 a2 a3 b1 b2 b3 c1 c2 c3 x y z : Int} (h : InI a1 ∧ InI a2 ∧ InI a3 ∧ InI b1 ∧ InI b2 ∧ InI b3 ∧ InI c1 ∧ InI c2 ∧ InI c3 ∧ InI x ∧ InI y ∧ InI z) : lawMatInvS [.agg [.int .i64 a1, .int .i64 a2, .int .i64 a3, .int .i64 b1, .int .i64 b2, .int .i64 b3, .int .i64 c1, .int .i64 c2, .int .i64 c3], .agg [.int .i64 x, .int .i64 y, .int .i64 z]] = .val (.bool true) := if_pos h
set_option maxHeartbeats 4000000 in
theorem lawMatInv_ok : SumOk Try.prog 6 (pureS lawMatInvS) := by
  refine sum_fn (L := fun _ => none) (n := 1) (S := stOf [(30, pureS mInverseS), (32, pureS mSolveS), (24, pureS awake4S), (31, pureS r4invS), (33, pureS r4solveS)]) drawS Try.T_ok (stOf_ok (by simp [mInverse_ok, mSolve_ok, awake4_ok, r4inv_ok, r4solve_ok])) Try.func6 rfl (by kernel_rfl) (by kernel_rfl) ?_
    (by intro args v h; unfold lawMatInvS at h; split at h <;> (try split at h) <;> simp at h)
  intro args v h
  unfold lawMatInvS at h
  split at h
  · rename_i a1 a2 a3 b1 b2 b3 c1 c2 c3 x y z
    split at h
    · rename_i hc
      obtain ⟨ha1, ha2, ha3, hb1, hb2, hb3, hc1, hc2, hc3, hx, hy, hz⟩ := hc
      cases h
      refine ⟨by simp, by simp, by simp, ?_⟩
      by_cases hd : detI a1 a2 a3 b1 b2 b3 c1 c2 c3 = 0
      · simp [ha1, ha2, ha3, hb1, hb2, hb3, hc1, hc2, hc3, hx, hy, hz, Try.f6, hd]
      · simp [ha1, ha2, ha3, hb1, hb2, hb3, hc1, hc2, hc3, hx, hy, hz, Try.f6, hd]
    · simp at h
  · simp at h

end Go.X
