/- Quaternions: rows and columns of the matrix. -/
import Derived.Test.YtjefenjflfhimaaJMW
namespace Go.X
open Go.Proofs
attribute [local irreducible] Good

theorem Turn_small {a b c d : Int} (h : TurnP a b c d) : (-8589934592 ≤ a ∧ a ≤ 8589934592) ∧ (-8589934592 ≤ b ∧ b ≤ 8589934592) ∧ (-8589934592 ≤ c ∧ c ≤ 8589934592) ∧ (-8589934592 ≤ d ∧ d ≤ 8589934592) := by
  have qa := sq_nonneg a
  have qb := sq_nonneg b
  have qc := sq_nonneg c
  have qd := sq_nonneg d
  have one : ∀ {x : Int}, x * x ≤ 73786976294838206464 → -8589934592 ≤ x ∧ x ≤ 8589934592 := by
    intro x hx
    have h2 : -x * -x ≤ 73786976294838206464 := by rw [Int.neg_mul_neg]; exact hx
    have h3 := le_of_sq hx (c := 8589934592) (by decide) (by decide)
    have h4 := le_of_sq h2 (c := 8589934592) (by decide) (by decide)
    omega
  unfold TurnP sq4 at h
  exact ⟨one (by omega), one (by omega), one (by omega), one (by omega)⟩

noncomputable def opp5S : List AV → PR
  | [.agg [.int .i64 a, .int .i64 b, .int .i64 c, .int .i64 d]] => open Classical in if InI a ∧ InI b ∧ InI c ∧ InI d ∧ InI (-a) ∧ InI (-b) ∧ InI (-c) ∧ InI (-d) then .val (.agg [.int .i64 (-a), .int .i64 (-b), .int .i64 (-c), .int .i64 (-d)]) else .fail
  | _ => .fail
@[simp] theorem opp5S_val {a b c d : Int} (h : InI a ∧ InI b ∧ InI c ∧ InI d ∧ InI (-a) ∧ InI (-b) ∧ InI (-c) ∧ InI (-d)) : opp5S [.agg [.int .i64 a, .int .i64 b, .int .i64 c, .int .i64 d]] = .val (.agg [.int .i64 (-a), .int .i64 (-b), .int .i64 (-c), .int .i64 (-d)]) := if_pos h
theorem opp5_ok : SumOk Try.prog 53 (pureS opp5S) := by
  refine sum_fn (L := fun _ => none) (n := 1) (S := stOf []) drawS Try.T_ok (stOf_ok (by simp)) Try.func53 rfl (by kernel_rfl) (by kernel_rfl) ?_
    (by intro args v h; unfold opp5S at h; split at h <;> (try split at h) <;> simp at h)
  intro args v h
  unfold opp5S at h
  split at h
  · rename_i a b c d
    split at h
    · rename_i hc
      obtain ⟨ha, hb, hc, hd, e0, e1, e2, e3⟩ := hc
      cases h
      refine ⟨by simp, by simp, by simp, ?_⟩
      have w0 : IntKind.i64.wrap (-a) = -a := wrap_i64_in e0.1 e0.2
      have w1 : IntKind.i64.wrap (-b) = -b := wrap_i64_in e1.1 e1.2
      have w2 : IntKind.i64.wrap (-c) = -c := wrap_i64_in e2.1 e2.2
      have w3 : IntKind.i64.wrap (-d) = -d := wrap_i64_in e3.1 e3.2
      simp [Try.f53, w0, w1, w2, w3]
    · simp at h
  · simp at h

noncomputable def within5S : List AV → PR
  | [.agg [.int .i64 a, .int .i64 b, .int .i64 c]] => open Classical in if -4294967296 ≤ a ∧ a ≤ 4294967296 ∧ -4294967296 ≤ b ∧ b ≤ 4294967296 ∧ -4294967296 ≤ c ∧ c ≤ 4294967296 then .val (.bool true) else .fail
  | _ => .fail
@[simp] theorem within5S_val {a b c : Int} (h : -4294967296 ≤ a ∧ a ≤ 4294967296 ∧ -4294967296 ≤ b ∧ b ≤ 4294967296 ∧ -4294967296 ≤ c ∧ c ≤ 4294967296) : within5S [.agg [.int .i64 a, .int .i64 b, .int .i64 c]] = .val (.bool true) := if_pos h
theorem within5_ok : SumOk Try.prog 54 (pureS within5S) := by
  refine sum_fn (L := fun _ => none) (n := 1) (S := stOf []) drawS Try.T_ok (stOf_ok (by simp)) Try.func54 rfl (by kernel_rfl) (by kernel_rfl) ?_
    (by intro args v h; unfold within5S at h; split at h <;> (try split at h) <;> simp at h)
  intro args v h
  unfold within5S at h
  split at h
  · rename_i a b c
    split at h
    · rename_i hc
      obtain ⟨e0, e1, e2, e3, e4, e5⟩ := hc
      cases h
      refine ⟨by simp, by simp, by simp, ?_⟩
      simp [Try.f54, e0, e1, e2, e3, e4, e5]
    · simp at h
  · simp at h

noncomputable def lawRows5S : List AV → PR
  | [.agg [.int .i64 a, .int .i64 b, .int .i64 c, .int .i64 d]] => open Classical in if InI a ∧ InI b ∧ InI c ∧ InI d then .val (.bool true) else .fail
  | _ => .fail
@[simp] theorem lawRows5S_val {a b c d : Int} (h : InI a ∧ InI b ∧ InI c ∧ InI d) : lawRows5S [.agg [.int .i64 a, .int .i64 b, .int .i64 c, .int .i64 d]] = .val (.bool true) := if_pos h
set_option maxHeartbeats 400000000 in
set_option maxRecDepth 100000 in
theorem lawRows5_ok : SumOk Try.prog 14 (pureS lawRows5S) := by
  refine sum_fn (L := fun _ => none) (n := 5) (S := stOf [(45, pureS awake5S), (52, pureS near30S), (50, sq3sS), (53, pureS opp5S), (54, pureS within5S), (46, pureS qMatrixS)]) drawS Try.T_ok (stOf_ok (by simp [awake5_ok, near30_ok, sq3s_ok, opp5_ok, within5_ok, qMatrix_ok])) Try.func14 rfl (by kernel_rfl) (by kernel_rfl) ?_
    (by intro args v h; unfold lawRows5S at h; split at h <;> (try split at h) <;> simp at h)
  intro args v h
  unfold lawRows5S at h
  split at h
  · rename_i a b c d
    split at h
    · rename_i hc
      obtain ⟨ha, hb, hc, hd⟩ := hc
      cases h
      refine ⟨by simp, by simp, by simp, ?_⟩
      by_cases tt : TurnP a b c d
      · have ts := Turn_small tt
        have sp := Turn_pos tt
        have h0 : r00 a b c d * r00 a b c d + r01 a b c d * r01 a b c d + r02 a b c d * r02 a b c d = sq4 a b c d * sq4 a b c d := by unfold r00 r01 r02 sq4; grind
        obtain ⟨u0, v0, w0, x0, y0, z0, p0, q0, s0, k0, l0⟩ := row_near sp h0
        have h1 : r10 a b c d * r10 a b c d + r11 a b c d * r11 a b c d + r12 a b c d * r12 a b c d = sq4 a b c d * sq4 a b c d := by unfold r10 r11 r12 sq4; grind
        obtain ⟨u1, v1, w1, x1, y1, z1, p1, q1, s1, k1, l1⟩ := row_near sp h1
        have h2 : r20 a b c d * r20 a b c d + r21 a b c d * r21 a b c d + r22 a b c d * r22 a b c d = sq4 a b c d * sq4 a b c d := by unfold r20 r21 r22 sq4; grind
        obtain ⟨u2, v2, w2, x2, y2, z2, p2, q2, s2, k2, l2⟩ := row_near sp h2
        have h3 : r00 a b c d * r00 a b c d + r10 a b c d * r10 a b c d + r20 a b c d * r20 a b c d = sq4 a b c d * sq4 a b c d := by unfold r00 r10 r20 sq4; grind
        obtain ⟨u3, v3, w3, x3, y3, z3, p3, q3, s3, k3, l3⟩ := row_near sp h3
        have h4 : r01 a b c d * r01 a b c d + r11 a b c d * r11 a b c d + r21 a b c d * r21 a b c d = sq4 a b c d * sq4 a b c d := by unfold r01 r11 r21 sq4; grind
        obtain ⟨u4, v4, w4, x4, y4, z4, p4, q4, s4, k4, l4⟩ := row_near sp h4
        have h5 : r02 a b c d * r02 a b c d + r12 a b c d * r12 a b c d + r22 a b c d * r22 a b c d = sq4 a b c d * sq4 a b c d := by unfold r02 r12 r22 sq4; grind
        obtain ⟨u5, v5, w5, x5, y5, z5, p5, q5, s5, k5, l5⟩ := row_near sp h5
        have t00 : u3 = u0 := by rw [← x3, ← x0]
        have t01 : v3 = u1 := by rw [← y3, ← x1]
        have t02 : w3 = u2 := by rw [← z3, ← x2]
        rw [t00, t01, t02] at k3 l3
        have t10 : u4 = v0 := by rw [← x4, ← y0]
        have t11 : v4 = v1 := by rw [← y4, ← y1]
        have t12 : w4 = v2 := by rw [← z4, ← y2]
        rw [t10, t11, t12] at k4 l4
        have t20 : u5 = w0 := by rw [← x5, ← z0]
        have t21 : v5 = w1 := by rw [← y5, ← z1]
        have t22 : w5 = w2 := by rw [← z5, ← z2]
        rw [t20, t21, t22] at k5 l5
        have ju0 := small_InI p0
        have cu0 := clampI_self ju0
        have fu0 : -4294967296 ≤ u0 := p0.1
        have gu0 : u0 ≤ 4294967296 := p0.2
        have jv0 := small_InI q0
        have cv0 := clampI_self jv0
        have fv0 : -4294967296 ≤ v0 := q0.1
        have gv0 : v0 ≤ 4294967296 := q0.2
        have jw0 := small_InI s0
        have cw0 := clampI_self jw0
        have fw0 : -4294967296 ≤ w0 := s0.1
        have gw0 : w0 ≤ 4294967296 := s0.2
        have ju1 := small_InI p1
        have cu1 := clampI_self ju1
        have fu1 : -4294967296 ≤ u1 := p1.1
        have gu1 : u1 ≤ 4294967296 := p1.2
        have jv1 := small_InI q1
        have cv1 := clampI_self jv1
        have fv1 : -4294967296 ≤ v1 := q1.1
        have gv1 : v1 ≤ 4294967296 := q1.2
        have jw1 := small_InI s1
        have cw1 := clampI_self jw1
        have fw1 : -4294967296 ≤ w1 := s1.1
        have gw1 : w1 ≤ 4294967296 := s1.2
        have ju2 := small_InI p2
        have cu2 := clampI_self ju2
        have fu2 : -4294967296 ≤ u2 := p2.1
        have gu2 : u2 ≤ 4294967296 := p2.2
        have jv2 := small_InI q2
        have cv2 := clampI_self jv2
        have fv2 : -4294967296 ≤ v2 := q2.1
        have gv2 : v2 ≤ 4294967296 := q2.2
        have jw2 := small_InI s2
        have cw2 := clampI_self jw2
        have fw2 : -4294967296 ≤ w2 := s2.1
        have gw2 : w2 ≤ 4294967296 := s2.2
        have n0 : NearOne (u0 * u0 + v0 * v0 + w0 * w0) 17179869184 := by unfold NearOne; omega
        have b0 : Bd 130 (u0 * u0 + v0 * v0 + w0 * w0) := ((((Bd.of ju0).mul (Bd.of ju0)).add ((Bd.of jv0).mul (Bd.of jv0))).add (((Bd.of jw0).mul (Bd.of jw0)).mono (by decide))).mono (by decide)
        have i0 := sval_limb (b0.w (by decide))
        have n1 : NearOne (u1 * u1 + v1 * v1 + w1 * w1) 17179869184 := by unfold NearOne; omega
        have b1 : Bd 130 (u1 * u1 + v1 * v1 + w1 * w1) := ((((Bd.of ju1).mul (Bd.of ju1)).add ((Bd.of jv1).mul (Bd.of jv1))).add (((Bd.of jw1).mul (Bd.of jw1)).mono (by decide))).mono (by decide)
        have i1 := sval_limb (b1.w (by decide))
        have n2 : NearOne (u2 * u2 + v2 * v2 + w2 * w2) 17179869184 := by unfold NearOne; omega
        have b2 : Bd 130 (u2 * u2 + v2 * v2 + w2 * w2) := ((((Bd.of ju2).mul (Bd.of ju2)).add ((Bd.of jv2).mul (Bd.of jv2))).add (((Bd.of jw2).mul (Bd.of jw2)).mono (by decide))).mono (by decide)
        have i2 := sval_limb (b2.w (by decide))
        have n3 : NearOne (u0 * u0 + u1 * u1 + u2 * u2) 17179869184 := by unfold NearOne; omega
        have b3 : Bd 130 (u0 * u0 + u1 * u1 + u2 * u2) := ((((Bd.of ju0).mul (Bd.of ju0)).add ((Bd.of ju1).mul (Bd.of ju1))).add (((Bd.of ju2).mul (Bd.of ju2)).mono (by decide))).mono (by decide)
        have i3 := sval_limb (b3.w (by decide))
        have n4 : NearOne (v0 * v0 + v1 * v1 + v2 * v2) 17179869184 := by unfold NearOne; omega
        have b4 : Bd 130 (v0 * v0 + v1 * v1 + v2 * v2) := ((((Bd.of jv0).mul (Bd.of jv0)).add ((Bd.of jv1).mul (Bd.of jv1))).add (((Bd.of jv2).mul (Bd.of jv2)).mono (by decide))).mono (by decide)
        have i4 := sval_limb (b4.w (by decide))
        have n5 : NearOne (w0 * w0 + w1 * w1 + w2 * w2) 17179869184 := by unfold NearOne; omega
        have b5 : Bd 130 (w0 * w0 + w1 * w1 + w2 * w2) := ((((Bd.of jw0).mul (Bd.of jw0)).add ((Bd.of jw1).mul (Bd.of jw1))).add (((Bd.of jw2).mul (Bd.of jw2)).mono (by decide))).mono (by decide)
        have i5 := sval_limb (b5.w (by decide))
        have o1 : InI (-a) := by unfold InI; omega
        have o2 : InI (-b) := by unfold InI; omega
        have o3 : InI (-c) := by unfold InI; omega
        have o4 : InI (-d) := by unfold InI; omega
        have sn : sq4 (-a) (-b) (-c) (-d) = sq4 a b c d := by unfold sq4; grind
        have tn : TurnP (-a) (-b) (-c) (-d) := by unfold TurnP; rw [sn]; exact tt
        have mr00 : r00 (-a) (-b) (-c) (-d) = r00 a b c d := by unfold r00; grind
        have mr01 : r01 (-a) (-b) (-c) (-d) = r01 a b c d := by unfold r01; grind
        have mr02 : r02 (-a) (-b) (-c) (-d) = r02 a b c d := by unfold r02; grind
        have mr10 : r10 (-a) (-b) (-c) (-d) = r10 a b c d := by unfold r10; grind
        have mr11 : r11 (-a) (-b) (-c) (-d) = r11 a b c d := by unfold r11; grind
        have mr12 : r12 (-a) (-b) (-c) (-d) = r12 a b c d := by unfold r12; grind
        have mr20 : r20 (-a) (-b) (-c) (-d) = r20 a b c d := by unfold r20; grind
        have mr21 : r21 (-a) (-b) (-c) (-d) = r21 a b c d := by unfold r21; grind
        have mr22 : r22 (-a) (-b) (-c) (-d) = r22 a b c d := by unfold r22; grind
        simp (maxSteps := 10000000) [ha, hb, hc, hd, R8_limb, sq3sS, Try.f14, tt, x0, ju0, cu0, fu0, gu0, y0, jv0, cv0, fv0, gv0, z0, jw0, cw0, fw0, gw0, x1, ju1, cu1, fu1, gu1, y1, jv1, cv1, fv1, gv1, z1, jw1, cw1, fw1, gw1, x2, ju2, cu2, fu2, gu2, y2, jv2, cv2, fv2, gv2, z2, jw2, cw2, fw2, gw2, n0, b0, i0, n1, b1, i1, n2, b2, i2, n3, b3, i3, n4, b4, i4, n5, b5, i5, o1, o2, o3, o4, sn, tn, mr00, mr01, mr02, mr10, mr11, mr12, mr20, mr21, mr22]
      · simp (maxSteps := 10000000) [ha, hb, hc, hd, Try.f14, tt]
    · simp at h
  · simp at h

end Go.X
