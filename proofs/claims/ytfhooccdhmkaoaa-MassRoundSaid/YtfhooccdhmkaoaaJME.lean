/- Package mat: the inverse; the reference's. -/
import Derived.Test.YtfhooccdhmkaoaaJMD
namespace Go.X
open Go.Proofs
attribute [local irreducible] Good

noncomputable def minv1S : Sum := fun args env _ => match args with
  | [.arr .u64 8 f, .ptr p 0] => match env p with
    | some ⟨[.arr .u64 8 g], _⟩ => open Classical in if R8 f ∧ R8 g ∧ InW (sval f * 18446744073709551616) ∧ sval g ≠ 0 ∧ InW (quoI (sval f * 18446744073709551616) (sval g)) then .val (.int .i64 (clampI (quoI (sval f * 18446744073709551616) (sval g)))) [] [] else .fail
    | _ => .fail
  | _ => .fail
theorem minv1_ok : SumOk Try.prog 112 minv1S := by
  refine sum_read (L := fun _ => none) (n := 1) (S := stOf [(113, pureS moverS), (72, pureS shlS)]) drawS Try.T_ok (stOf_ok (by simp [mover_ok, shl_ok])) Try.func112 rfl (by kernel_rfl) (by kernel_rfl) ?_
  intro args env nxt h
  unfold minv1S at h ⊢
  split at h
  · rename_i f p
    split at h
    · rename_i g ty0 m0
      split at h
      · rename_i hc
        obtain ⟨hf, hg, e0, e1, e2⟩ := id hc
        refine ⟨_, _, _, .int .i64 (clampI (quoI (sval f * 18446744073709551616) (sval g))), laid1 [.arr .u64 8 f, .ptr 0 0] rfl (by simp) m0 rfl, by first | exact if_pos hc | (simp only [m0]; exact if_pos hc), by simp, by simp, ?_⟩
        simp [Try.f112, hf, hg, e0, e1, e2, R8_limb, shlV, fitV, sval_limb e0]
      · simp at h
    · simp at h
  · simp at h

noncomputable def mInverseS : List AV → PR
  | [.agg [.int .i64 a1, .int .i64 a2, .int .i64 a3, .int .i64 b1, .int .i64 b2, .int .i64 b3, .int .i64 c1, .int .i64 c2, .int .i64 c3]] => open Classical in if InI a1 ∧ InI a2 ∧ InI a3 ∧ InI b1 ∧ InI b2 ∧ InI b3 ∧ InI c1 ∧ InI c2 ∧ InI c3 then .val (if detI a1 a2 a3 b1 b2 b3 c1 c2 c3 = 0 then .tup [.agg [.int .i64 0, .int .i64 0, .int .i64 0, .int .i64 0, .int .i64 0, .int .i64 0, .int .i64 0, .int .i64 0, .int .i64 0], .bool false] else .tup [.agg [.int .i64 (clampI (quoI ((b2 * c3 - b3 * c2) * 2 ^ 64) (detI a1 a2 a3 b1 b2 b3 c1 c2 c3))), .int .i64 (clampI (quoI ((c2 * a3 - c3 * a2) * 2 ^ 64) (detI a1 a2 a3 b1 b2 b3 c1 c2 c3))), .int .i64 (clampI (quoI ((a2 * b3 - a3 * b2) * 2 ^ 64) (detI a1 a2 a3 b1 b2 b3 c1 c2 c3))), .int .i64 (clampI (quoI ((b3 * c1 - b1 * c3) * 2 ^ 64) (detI a1 a2 a3 b1 b2 b3 c1 c2 c3))), .int .i64 (clampI (quoI ((c3 * a1 - c1 * a3) * 2 ^ 64) (detI a1 a2 a3 b1 b2 b3 c1 c2 c3))), .int .i64 (clampI (quoI ((a3 * b1 - a1 * b3) * 2 ^ 64) (detI a1 a2 a3 b1 b2 b3 c1 c2 c3))), .int .i64 (clampI (quoI ((b1 * c2 - b2 * c1) * 2 ^ 64) (detI a1 a2 a3 b1 b2 b3 c1 c2 c3))), .int .i64 (clampI (quoI ((c1 * a2 - c2 * a1) * 2 ^ 64) (detI a1 a2 a3 b1 b2 b3 c1 c2 c3))), .int .i64 (clampI (quoI ((a1 * b2 - a2 * b1) * 2 ^ 64) (detI a1 a2 a3 b1 b2 b3 c1 c2 c3)))], .bool true]) else .fail
  | _ => .fail
@[simp] theorem mInverseS_val {a1 a2 a3 b1 b2 b3 c1 c2 c3 : Int} (h : InI a1 ∧ InI a2 ∧ InI a3 ∧ InI b1 ∧ InI b2 ∧ InI b3 ∧ InI c1 ∧ InI c2 ∧ InI c3) : mInverseS [.agg [.int .i64 a1, .int .i64 a2, .int .i64 a3, .int .i64 b1, .int .i64 b2, .int .i64 b3, .int .i64 c1, .int .i64 c2, .int .i64 c3]] = .val (if detI a1 a2 a3 b1 b2 b3 c1 c2 c3 = 0 then .tup [.agg [.int .i64 0, .int .i64 0, .int .i64 0, .int .i64 0, .int .i64 0, .int .i64 0, .int .i64 0, .int .i64 0, .int .i64 0], .bool false] else .tup [.agg [.int .i64 (clampI (quoI ((b2 * c3 - b3 * c2) * 2 ^ 64) (detI a1 a2 a3 b1 b2 b3 c1 c2 c3))), .int .i64 (clampI (quoI ((c2 * a3 - c3 * a2) * 2 ^ 64) (detI a1 a2 a3 b1 b2 b3 c1 c2 c3))), .int .i64 (clampI (quoI ((a2 * b3 - a3 * b2) * 2 ^ 64) (detI a1 a2 a3 b1 b2 b3 c1 c2 c3))), .int .i64 (clampI (quoI ((b3 * c1 - b1 * c3) * 2 ^ 64) (detI a1 a2 a3 b1 b2 b3 c1 c2 c3))), .int .i64 (clampI (quoI ((c3 * a1 - c1 * a3) * 2 ^ 64) (detI a1 a2 a3 b1 b2 b3 c1 c2 c3))), .int .i64 (clampI (quoI ((a3 * b1 - a1 * b3) * 2 ^ 64) (detI a1 a2 a3 b1 b2 b3 c1 c2 c3))), .int .i64 (clampI (quoI ((b1 * c2 - b2 * c1) * 2 ^ 64) (detI a1 a2 a3 b1 b2 b3 c1 c2 c3))), .int .i64 (clampI (quoI ((c1 * a2 - c2 * a1) * 2 ^ 64) (detI a1 a2 a3 b1 b2 b3 c1 c2 c3))), .int .i64 (clampI (quoI ((a1 * b2 - a2 * b1) * 2 ^ 64) (detI a1 a2 a3 b1 b2 b3 c1 c2 c3)))], .bool true]) := if_pos h
set_option maxHeartbeats 40000000 in
theorem mInverse_ok : SumOk Try.prog 55 (pureS mInverseS) := by
  refine sum_fn (L := fun i => if i = 11 then some (.quiet 16) else none) (n := 5) (S := stOf [(59, pureS mrawsS), (109, pureS mminorsS), (110, pureS mdet0S), (111, pureS signS), (112, minv1S)]) drawS Try.T_ok (stOf_ok (by simp [mraws_ok, mminors_ok, mdet0_ok, sign_ok, minv1_ok])) Try.func55 rfl (by kernel_rfl) (by kernel_rfl) ?_
    (by intro args v h; unfold mInverseS at h; split at h <;> (try split at h) <;> simp at h)
  intro args v h
  unfold mInverseS at h
  split at h
  · rename_i a1 a2 a3 b1 b2 b3 c1 c2 c3
    split at h
    · rename_i hc
      obtain ⟨ha1, ha2, ha3, hb1, hb2, hb3, hc1, hc2, hc3⟩ := hc
      cases h
      refine ⟨by simp, by (split <;> simp), by (split <;> simp), ?_⟩
      have u : Bd 192 (detI a1 a2 a3 b1 b2 b3 c1 c2 c3) := Bd.det (Bd.of ha1) (Bd.of ha2) (Bd.of ha3) (Bd.of hb1) (Bd.of hb2) (Bd.of hb3) (Bd.of hc1) (Bd.of hc2) (Bd.of hc3)
      have i := u.w (by decide)
      have si := sval_limb i
      have ed : a1 * (b2 * c3 - b3 * c2) + a2 * (b3 * c1 - b1 * c3) + a3 * (b1 * c2 - b2 * c1) = detI a1 a2 a3 b1 b2 b3 c1 c2 c3 := rfl
      have j0 : Bd 127 (b2 * c3 - b3 * c2) := (Bd.of hb2).minor (Bd.of hc3) (Bd.of hb3) (Bd.of hc2)
      have w0 := j0.w (by decide)
      have s0 := sval_limb w0
      have v0 : Bd 191 ((b2 * c3 - b3 * c2) * 18446744073709551616) := by simpa using j0.shl 64
      have p0 := v0.w (by decide)
      have j1 : Bd 127 (c2 * a3 - c3 * a2) := (Bd.of hc2).minor (Bd.of ha3) (Bd.of hc3) (Bd.of ha2)
      have w1 := j1.w (by decide)
      have s1 := sval_limb w1
      have v1 : Bd 191 ((c2 * a3 - c3 * a2) * 18446744073709551616) := by simpa using j1.shl 64
      have p1 := v1.w (by decide)
      have j2 : Bd 127 (a2 * b3 - a3 * b2) := (Bd.of ha2).minor (Bd.of hb3) (Bd.of ha3) (Bd.of hb2)
      have w2 := j2.w (by decide)
      have s2 := sval_limb w2
      have v2 : Bd 191 ((a2 * b3 - a3 * b2) * 18446744073709551616) := by simpa using j2.shl 64
      have p2 := v2.w (by decide)
      have j3 : Bd 127 (b3 * c1 - b1 * c3) := (Bd.of hb3).minor (Bd.of hc1) (Bd.of hb1) (Bd.of hc3)
      have w3 := j3.w (by decide)
      have s3 := sval_limb w3
      have v3 : Bd 191 ((b3 * c1 - b1 * c3) * 18446744073709551616) := by simpa using j3.shl 64
      have p3 := v3.w (by decide)
      have j4 : Bd 127 (c3 * a1 - c1 * a3) := (Bd.of hc3).minor (Bd.of ha1) (Bd.of hc1) (Bd.of ha3)
      have w4 := j4.w (by decide)
      have s4 := sval_limb w4
      have v4 : Bd 191 ((c3 * a1 - c1 * a3) * 18446744073709551616) := by simpa using j4.shl 64
      have p4 := v4.w (by decide)
      have j5 : Bd 127 (a3 * b1 - a1 * b3) := (Bd.of ha3).minor (Bd.of hb1) (Bd.of ha1) (Bd.of hb3)
      have w5 := j5.w (by decide)
      have s5 := sval_limb w5
      have v5 : Bd 191 ((a3 * b1 - a1 * b3) * 18446744073709551616) := by simpa using j5.shl 64
      have p5 := v5.w (by decide)
      have j6 : Bd 127 (b1 * c2 - b2 * c1) := (Bd.of hb1).minor (Bd.of hc2) (Bd.of hb2) (Bd.of hc1)
      have w6 := j6.w (by decide)
      have s6 := sval_limb w6
      have v6 : Bd 191 ((b1 * c2 - b2 * c1) * 18446744073709551616) := by simpa using j6.shl 64
      have p6 := v6.w (by decide)
      have j7 : Bd 127 (c1 * a2 - c2 * a1) := (Bd.of hc1).minor (Bd.of ha2) (Bd.of hc2) (Bd.of ha1)
      have w7 := j7.w (by decide)
      have s7 := sval_limb w7
      have v7 : Bd 191 ((c1 * a2 - c2 * a1) * 18446744073709551616) := by simpa using j7.shl 64
      have p7 := v7.w (by decide)
      have j8 : Bd 127 (a1 * b2 - a2 * b1) := (Bd.of ha1).minor (Bd.of hb2) (Bd.of ha2) (Bd.of hb1)
      have w8 := j8.w (by decide)
      have s8 := sval_limb w8
      have v8 : Bd 191 ((a1 * b2 - a2 * b1) * 18446744073709551616) := by simpa using j8.shl 64
      have p8 := v8.w (by decide)
      by_cases hd : detI a1 a2 a3 b1 b2 b3 c1 c2 c3 = 0
      · simp (maxSteps := 10000000) [ha1, ha2, ha3, hb1, hb2, hb3, hc1, hc2, hc3, fitI ha1, fitI ha2, fitI ha3, fitI hb1, fitI hb2, fitI hb3, fitI hc1, fitI hc2, fitI hc3, R8_limb, Bd.of ha1, Bd.of ha2, Bd.of ha3, Bd.of hb1, Bd.of hb2, Bd.of hb3, Bd.of hc1, Bd.of hc2, Bd.of hc3, ed, j0, s0, j3, s3, j6, s6, Try.f55, hd]
      · have sg0 : ¬ sgnI (detI a1 a2 a3 b1 b2 b3 c1 c2 c3) = 0 := fun e => hd (sgnI_zero.1 e)
        have q0 := v0.quo (by decide) hd
        have q1 := v1.quo (by decide) hd
        have q2 := v2.quo (by decide) hd
        have q3 := v3.quo (by decide) hd
        have q4 := v4.quo (by decide) hd
        have q5 := v5.quo (by decide) hd
        have q6 := v6.quo (by decide) hd
        have q7 := v7.quo (by decide) hd
        have q8 := v8.quo (by decide) hd
        simp (maxSteps := 10000000) [ha1, ha2, ha3, hb1, hb2, hb3, hc1, hc2, hc3, fitI ha1, fitI ha2, fitI ha3, fitI hb1, fitI hb2, fitI hb3, fitI hc1, fitI hc2, fitI hc3, R8_limb, Bd.of ha1, Bd.of ha2, Bd.of ha3, Bd.of hb1, Bd.of hb2, Bd.of hb3, Bd.of hc1, Bd.of hc2, Bd.of hc3, si, ed, j0, s0, p0, s1, p1, s2, p2, j3, s3, p3, s4, p4, s5, p5, j6, s6, p6, s7, p7, s8, p8, Try.f55, hd, sg0, minv1S, q0, q1, q2, q3, q4, q5, q6, q7, q8]
    · simp at h
  · simp at h

end Go.X
