/- Signs of the determinant; quotients; diagonals. -/
import Derived.Test.YtjefenjflfhimaaJMG
namespace Go.X
open Go.Proofs
attribute [local irreducible] Good
attribute [simp] Try.T_123 Try.T_170

/-- within, and not at an end -/
def Inner (a : Int) : Prop := -9223372036854775807 < a ∧ a < 9223372036854775807
instance (a : Int) : Decidable (Inner a) := inferInstanceAs (Decidable (_ ∧ _))
theorem clampI_inner {z : Int} (h : Inner (clampI z)) : clampI z = z := by
  by_cases hz : InI z
  · exact clampI_self hz
  · exfalso
    unfold InI at hz
    by_cases h0 : z < 0
    · rw [clampI_lo (by omega)] at h; unfold Inner at h; omega
    · rw [clampI_hi (by omega)] at h; unfold Inner at h; omega
theorem opp_floor {d : Int} (h1 : Inner (clampI (d / 18446744073709551616))) (h2 : Inner (clampI (-d / 18446744073709551616))) :
    clampI (-d / 18446744073709551616) = - clampI (d / 18446744073709551616) ∨ clampI (-d / 18446744073709551616) = - clampI (d / 18446744073709551616) - 1 := by
  rw [clampI_inner h1, clampI_inner h2]
  omega
theorem quoI_cancel {a b c : Int} (hb : b ≠ 0) (hc : c ≠ 0) : quoI (a * c) (b * c) = quoI a b := by
  obtain ⟨h1, h2⟩ := quoI_spec a hb
  refine (quoI_of (a := a * c) (b := b * c) (q := quoI a b) (r := remI a b * c) ?_ ?_).1
  · have e : a * c = (quoI a b * b + remI a b) * c := by rw [← h1]
    rw [e, Int.add_mul, Int.mul_assoc]
  · generalize remI a b = r at *
    rcases Int.lt_or_gt_of_ne hc with hc | hc
    · rcases h2 with ⟨p1, p2, p3⟩ | ⟨p1, p2, p3⟩
      · right
        exact ⟨Int.mul_lt_mul_of_neg_right p3 hc, Int.mul_nonpos_of_nonneg_of_nonpos p2 (Int.le_of_lt hc)⟩
      · left
        exact ⟨Int.mul_nonneg_of_nonpos_of_nonpos p3 (Int.le_of_lt hc), Int.mul_lt_mul_of_neg_right p2 hc⟩
    · rcases h2 with ⟨p1, p2, p3⟩ | ⟨p1, p2, p3⟩
      · left
        exact ⟨Int.mul_nonneg p2 (Int.le_of_lt hc), Int.mul_lt_mul_of_pos_right p3 hc⟩
      · right
        exact ⟨Int.mul_lt_mul_of_pos_right p2 hc, Int.mul_nonpos_of_nonpos_of_nonneg p3 (Int.le_of_lt hc)⟩
@[simp] theorem quoI_nil {b : Int} : quoI 0 b = 0 := by unfold quoI; split <;> simp
@[simp] theorem clampI_nil : clampI 0 = 0 := by decide

noncomputable def inner4S : List AV → PR
  | [.int .i64 a] => .val (.bool (decide (Inner a)))
  | _ => .fail
@[simp] theorem inner4S_val {a : Int} : inner4S [.int .i64 a] = .val (.bool (decide (Inner a))) := rfl
theorem inner4_ok : SumOk Try.prog 27 (pureS inner4S) := by
  refine sum_fn (L := fun _ => none) (n := 1) (S := stOf []) drawS Try.T_ok (stOf_ok (by simp)) Try.func27 rfl (by kernel_rfl) (by kernel_rfl) ?_
    (by intro args v h; unfold inner4S at h; split at h <;> (try split at h) <;> simp at h)
  intro args v h
  unfold inner4S at h
  split at h
  · rename_i a
    cases h
    refine ⟨by simp, by simp, by simp, ?_⟩
    by_cases h1 : -9223372036854775807 < a
    · by_cases h2 : a < 9223372036854775807
      · simp [Try.f27, Inner, h1, h2]
      · simp [Try.f27, Inner, h1, h2]
    · simp [Try.f27, Inner, h1]
  · simp at h

noncomputable def lawMatSignsS : List AV → PR
  | [.agg [.int .i64 a1, .int .i64 a2, .int .i64 a3, .int .i64 b1, .int .i64 b2, .int .i64 b3, .int .i64 c1, .int .i64 c2, .int .i64 c3], .int .i64 w] => open Classical in if InI a1 ∧ InI a2 ∧ InI a3 ∧ InI b1 ∧ InI b2 ∧ InI b3 ∧ InI c1 ∧ InI c2 ∧ InI c3 ∧ InI w then .val (.bool true) else .fail
  | _ => .fail
@[simp] theorem lawMatSignsS_val {a1 a2 a3 b1 b2 b3 c1 c2 c3 w : Int} (h : InI a1 ∧ InI a2 ∧ InI a3 ∧ InI b1 ∧ InI b2 ∧ InI b3 ∧ InI c1 ∧ InI c2 ∧ InI c3 ∧ InI w) : lawMatSignsS [.agg [.int .i64 a1, .int .i64 a2, .int .i64 a3, .int .i64 b1, .int .i64 b2, .int .i64 b3, .int .i64 c1, .int .i64 c2, .int .i64 c3], .int .i64 w] = .val (.bool true) := if_pos h
set_option maxHeartbeats 40000000 in
set_option maxRecDepth 100000 in
theorem lawMatSigns_ok : SumOk Try.prog 4 (pureS lawMatSignsS) := by
  refine sum_fn (L := fun _ => none) (n := 1) (S := stOf [(22, pureS mDetS), (25, pureS moneS), (26, pureS mturnedS), (24, pureS awake4S), (27, pureS inner4S)]) drawS Try.T_ok (stOf_ok (by simp [mDet_ok, mone_ok, mturned_ok, awake4_ok, inner4_ok])) Try.func4 rfl (by kernel_rfl) (by kernel_rfl) ?_
    (by intro args v h; unfold lawMatSignsS at h; split at h <;> (try split at h) <;> simp at h)
  intro args v h
  unfold lawMatSignsS at h
  split at h
  · rename_i a1 a2 a3 b1 b2 b3 c1 c2 c3 w
    split at h
    · rename_i hc
      obtain ⟨ha1, ha2, ha3, hb1, hb2, hb3, hc1, hc2, hc3, hw⟩ := hc
      cases h
      refine ⟨by simp, by simp, by simp, ?_⟩
      have t1 := Int.tmod_lt_of_pos w (show (0 : Int) < 3 by decide)
      have t2 := Int.lt_tmod_of_pos w (show (0 : Int) < 3 by decide)
      have hr : w.tmod 3 = -2 ∨ w.tmod 3 = -1 ∨ w.tmod 3 = 0 ∨ w.tmod 3 = 1 ∨ w.tmod 3 = 2 := by omega
      have s0 : detI b1 b2 b3 a1 a2 a3 c1 c2 c3 = -(detI a1 a2 a3 b1 b2 b3 c1 c2 c3) := by unfold detI; grind
      have s1 : detI a1 a2 a3 c1 c2 c3 b1 b2 b3 = -(detI a1 a2 a3 b1 b2 b3 c1 c2 c3) := by unfold detI; grind
      have s2 : detI c1 c2 c3 b1 b2 b3 a1 a2 a3 = -(detI a1 a2 a3 b1 b2 b3 c1 c2 c3) := by unfold detI; grind
      have st : detI a1 b1 c1 a2 b2 c2 a3 b3 c3 = detI a1 a2 a3 b1 b2 b3 c1 c2 c3 := by unfold detI; grind
      have one : clampI (detI 4294967296 0 0 0 4294967296 0 0 0 4294967296 / 18446744073709551616) = 4294967296 := by decide +kernel
      by_cases h1 : Inner (clampI (detI a1 a2 a3 b1 b2 b3 c1 c2 c3 / 18446744073709551616))
      · by_cases h2 : Inner (clampI (-(detI a1 a2 a3 b1 b2 b3 c1 c2 c3) / 18446744073709551616))
        · have w1 : IntKind.i64.wrap (-clampI (detI a1 a2 a3 b1 b2 b3 c1 c2 c3 / 18446744073709551616)) = -clampI (detI a1 a2 a3 b1 b2 b3 c1 c2 c3 / 18446744073709551616) := by unfold Inner at h1; exact wrap_i64_in (by omega) (by omega)
          have w2 : IntKind.i64.wrap (-clampI (detI a1 a2 a3 b1 b2 b3 c1 c2 c3 / 18446744073709551616) - 1) = -clampI (detI a1 a2 a3 b1 b2 b3 c1 c2 c3 / 18446744073709551616) - 1 := by unfold Inner at h1; exact wrap_i64_in (by omega) (by omega)
          rcases opp_floor h1 h2 with h3 | h3
          · have h4 : Inner (-clampI (detI a1 a2 a3 b1 b2 b3 c1 c2 c3 / 18446744073709551616)) := by rw [← h3]; exact h2
            rcases hr with hr | hr | hr | hr | hr <;> simp (maxSteps := 10000000) [ha1, ha2, ha3, hb1, hb2, hb3, hc1, hc2, hc3, InI_one, InI_zero, Try.f4, hr, s0, s1, s2, st, one, h1, h3, h4, w1]
          · have h4 : Inner (-clampI (detI a1 a2 a3 b1 b2 b3 c1 c2 c3 / 18446744073709551616) - 1) := by rw [← h3]; exact h2
            have h5 : ¬ -clampI (detI a1 a2 a3 b1 b2 b3 c1 c2 c3 / 18446744073709551616) - 1 = -clampI (detI a1 a2 a3 b1 b2 b3 c1 c2 c3 / 18446744073709551616) := by omega
            rcases hr with hr | hr | hr | hr | hr <;> simp (maxSteps := 10000000) [ha1, ha2, ha3, hb1, hb2, hb3, hc1, hc2, hc3, InI_one, InI_zero, Try.f4, hr, s0, s1, s2, st, one, h1, h3, h4, h5, w1, w2]
        · rcases hr with hr | hr | hr | hr | hr <;> simp (maxSteps := 10000000) [ha1, ha2, ha3, hb1, hb2, hb3, hc1, hc2, hc3, InI_one, InI_zero, Try.f4, hr, s0, s1, s2, st, one, h1, h2]
      · rcases hr with hr | hr | hr | hr | hr <;> simp (maxSteps := 10000000) [ha1, ha2, ha3, hb1, hb2, hb3, hc1, hc2, hc3, InI_one, InI_zero, Try.f4, hr, s0, s1, s2, st, one, h1]
    · simp at h
  · simp at h

noncomputable def fupDS : List AV → PR
  | [] => .val (.bool false)
  | _ => .fail
@[simp] theorem fupDS_val : fupDS [] = .val (.bool false) := rfl
theorem fupD_ok : SumOk Try.prog 184 (pureS fupDS) := by
  refine sum_fn (L := fun _ => none) (n := 1) (S := stOf []) drawS Try.T_ok (stOf_ok (by simp)) Try.func184 rfl (by kernel_rfl) (by kernel_rfl) ?_
    (by intro args v h; unfold fupDS at h; split at h <;> (try split at h) <;> simp at h)
  intro args v h
  unfold fupDS at h
  split at h
  · skip
    cases h
    refine ⟨by simp, by simp, by simp, ?_⟩
    simp [Try.f184]
  · simp at h

noncomputable def fquoDS : List AV → PR
  | [.arr .u64 8 f, .arr .u64 8 g] => open Classical in if R8 f ∧ R8 g ∧ sval g ≠ 0 ∧ InW (quoI (sval f) (sval g)) then .val (W (quoI (sval f) (sval g))) else .fail
  | _ => .fail
@[simp] theorem fquoDS_val {f g : Nat → Int} (h : R8 f ∧ R8 g ∧ sval g ≠ 0 ∧ InW (quoI (sval f) (sval g))) : fquoDS [.arr .u64 8 f, .arr .u64 8 g] = .val (W (quoI (sval f) (sval g))) := if_pos h
theorem fquoD_ok : SumOk Try.prog 162 (pureS fquoDS) := by
  refine sum_fn (L := fun i => if i = 3 then some (.quiet 3) else none) (n := 1) (S := stOf [(166, pureS fsumS), (184, pureS fupDS), (98, pureS divS), (107, pureS ofS), (75, pureS signS)]) drawS Try.T_ok (stOf_ok (by simp [fsum_ok, fupD_ok, div_ok, of_ok, sign_ok])) Try.func162 rfl (by kernel_rfl) (by kernel_rfl) ?_
    (by intro args v h; unfold fquoDS at h; split at h <;> (try split at h) <;> simp at h)
  intro args v h
  unfold fquoDS at h
  split at h
  · rename_i f g
    split at h
    · rename_i hc
      obtain ⟨hf, hg, e0, e1⟩ := hc
      cases h
      refine ⟨by simp, by simp, by simp, ?_⟩
      simp [Try.f162, hf, hg, e0, e1, quoV]
    · simp at h
  · simp at h

noncomputable def foverDS : List AV → PR
  | [.int .i64 a, .int .i64 b] => open Classical in if InI a ∧ InI b ∧ b ≠ 0 then .val (.int .i64 (clampI (quoI (a * 4294967296) b))) else .fail
  | _ => .fail
@[simp] theorem foverDS_val {a b : Int} (h : InI a ∧ InI b ∧ b ≠ 0) : foverDS [.int .i64 a, .int .i64 b] = .val (.int .i64 (clampI (quoI (a * 4294967296) b))) := if_pos h
theorem foverD_ok : SumOk Try.prog 112 (pureS foverDS) := by
  refine sum_fn (L := fun _ => none) (n := 1) (S := stOf [(162, pureS fquoDS), (161, pureS frawS), (125, pureS fwithinS), (77, pureS shlS)]) drawS Try.T_ok (stOf_ok (by simp [fquoD_ok, fraw_ok, fwithin_ok, shl_ok])) Try.func112 rfl (by kernel_rfl) (by kernel_rfl) ?_
    (by intro args v h; unfold foverDS at h; split at h <;> (try split at h) <;> simp at h)
  intro args v h
  unfold foverDS at h
  split at h
  · rename_i a b
    split at h
    · rename_i hc
      obtain ⟨ha, hb, e0⟩ := hc
      cases h
      refine ⟨by simp, by simp, by simp, ?_⟩
      have v : Bd 95 (a * 4294967296) := by simpa using (Bd.of ha).shl 32
      have i := v.w (by decide)
      have q := v.quo (by decide) e0
      simp [Try.f112, ha, hb, e0, fitI ha, fitI hb, R8_limb, shlV, fitV, i, sval_limb i, q, sval_limb q]
    · simp at h
  · simp at h

noncomputable def fDivS : List AV → PR
  | [.int .i64 a, .int .i64 b] => open Classical in if InI a ∧ InI b ∧ b ≠ 0 then .val (.int .i64 (clampI (quoI (a * 4294967296) b))) else .fail
  | _ => .fail
@[simp] theorem fDivS_val {a b : Int} (h : InI a ∧ InI b ∧ b ≠ 0) : fDivS [.int .i64 a, .int .i64 b] = .val (.int .i64 (clampI (quoI (a * 4294967296) b))) := if_pos h
theorem fDiv_ok : SumOk Try.prog 55 (pureS fDivS) := by
  refine sum_fn (L := fun _ => none) (n := 1) (S := stOf [(112, pureS foverDS)]) drawS Try.T_ok (stOf_ok (by simp [foverD_ok])) Try.func55 rfl (by kernel_rfl) (by kernel_rfl) ?_
    (by intro args v h; unfold fDivS at h; split at h <;> (try split at h) <;> simp at h)
  intro args v h
  unfold fDivS at h
  split at h
  · rename_i a b
    split at h
    · rename_i hc
      obtain ⟨ha, hb, e0⟩ := hc
      cases h
      refine ⟨by simp, by simp, by simp, ?_⟩
      simp [Try.f55, ha, hb, e0]
    · simp at h
  · simp at h

noncomputable def lawMatDiagS : List AV → PR
  | [.agg [.int .i64 a, .int .i64 b, .int .i64 c], .agg [.int .i64 x, .int .i64 y, .int .i64 z]] => open Classical in if InI a ∧ InI b ∧ InI c ∧ InI x ∧ InI y ∧ InI z then .val (.bool true) else .fail
  | _ => .fail
@[simp] theorem lawMatDiagS_val {a b c x y z : Int} (h : InI a ∧ InI b ∧ InI c ∧ InI x ∧ InI y ∧ InI z) : lawMatDiagS [.agg [.int .i64 a, .int .i64 b, .int .i64 c], .agg [.int .i64 x, .int .i64 y, .int .i64 z]] = .val (.bool true) := if_pos h
set_option maxHeartbeats 40000000 in
theorem lawMatDiag_ok : SumOk Try.prog 15 (pureS lawMatDiagS) := by
  refine sum_fn (L := fun i => if i = 2 then some (.held 8 [6]) else if i = 5 then some (.quiet 12) else none) (n := 1) (S := stOf [(55, pureS fDivS), (35, pureS mdiagS), (30, pureS mInverseS), (32, pureS mSolveS), (24, pureS awake4S)]) drawS Try.T_ok (stOf_ok (by simp [fDiv_ok, mdiag_ok, mInverse_ok, mSolve_ok, awake4_ok])) Try.func15 rfl (by kernel_rfl) (by kernel_rfl) ?_
    (by intro args v h; unfold lawMatDiagS at h; split at h <;> (try split at h) <;> simp at h)
  intro args v h
  unfold lawMatDiagS at h
  split at h
  · rename_i a b c x y z
    split at h
    · rename_i hc
      obtain ⟨ha, hb, hc, hx, hy, hz⟩ := hc
      cases h
      refine ⟨by simp, by simp, by simp, ?_⟩
      have hd : detI a 0 0 0 b 0 0 0 c = a * b * c := by unfold detI; grind
      have u1 : detI x 0 0 y b 0 z 0 c = x * (b * c) := by unfold detI; grind
      have u2 : detI a x 0 0 y 0 0 z c = y * (a * c) := by unfold detI; grind
      have u3 : detI a 0 x 0 b y 0 0 z = z * (a * b) := by unfold detI; grind
      by_cases h1 : a = 0
      · subst h1
        have d0 : detI 0 0 0 0 b 0 0 0 c = 0 := by unfold detI; simp
        simp (maxSteps := 10000000) [ha, hb, hc, hx, hy, hz, Try.f15, d0]
      · by_cases h2 : b = 0
        · subst h2
          have d0 : detI a 0 0 0 0 0 0 0 c = 0 := by unfold detI; simp
          simp (maxSteps := 10000000) [ha, hb, hc, hx, hy, hz, Try.f15, d0, h1]
        · by_cases h3 : c = 0
          · subst h3
            have d0 : detI a 0 0 0 b 0 0 0 0 = 0 := by unfold detI; simp
            simp (maxSteps := 10000000) [ha, hb, hc, hx, hy, hz, Try.f15, d0, h1, h2]
          · have bc := Int.mul_ne_zero h2 h3
            have ac := Int.mul_ne_zero h1 h3
            have ab := Int.mul_ne_zero h1 h2
            have d0 : ¬ a * b * c = 0 := Int.mul_ne_zero ab h3
            have q1 : quoI (b * c * 18446744073709551616) (a * b * c) = quoI 18446744073709551616 a := by rw [show b * c * 18446744073709551616 = 18446744073709551616 * (b * c) by grind, show a * b * c = a * (b * c) by grind, quoI_cancel h1 bc]
            have q2 : quoI (c * a * 18446744073709551616) (a * b * c) = quoI 18446744073709551616 b := by rw [show c * a * 18446744073709551616 = 18446744073709551616 * (a * c) by grind, show a * b * c = b * (a * c) by grind, quoI_cancel h2 ac]
            have q3 : quoI (a * b * 18446744073709551616) (a * b * c) = quoI 18446744073709551616 c := by rw [show a * b * 18446744073709551616 = 18446744073709551616 * (a * b) by grind, show a * b * c = c * (a * b) by grind, quoI_cancel h3 ab]
            have r1 : quoI (x * (b * c) * 4294967296) (a * b * c) = quoI (x * 4294967296) a := by rw [show x * (b * c) * 4294967296 = x * 4294967296 * (b * c) by grind, show a * b * c = a * (b * c) by grind, quoI_cancel h1 bc]
            have r2 : quoI (y * (a * c) * 4294967296) (a * b * c) = quoI (y * 4294967296) b := by rw [show y * (a * c) * 4294967296 = y * 4294967296 * (a * c) by grind, show a * b * c = b * (a * c) by grind, quoI_cancel h2 ac]
            have r3 : quoI (z * (a * b) * 4294967296) (a * b * c) = quoI (z * 4294967296) c := by rw [show z * (a * b) * 4294967296 = z * 4294967296 * (a * b) by grind, show a * b * c = c * (a * b) by grind, quoI_cancel h3 ab]
            simp (maxSteps := 10000000) [ha, hb, hc, hx, hy, hz, InI_one, InI_zero, Try.f15, hd, d0, u1, u2, u3, h1, h2, h3, q1, q2, q3, r1, r2, r3]
    · simp at h
  · simp at h

end Go.X
