/- Poses: the reference, and the laws that ask the document's answer. -/
import Derived.Test.YtgfpllfimpgooaaGreatJT6
namespace Go.X
open Go.Proofs
attribute [local irreducible] Good

/-- may a number of a place be? -/
def PlN (a : Int) : Prop := -4398046511104 ≤ a ∧ a ≤ 4398046511104
instance (a : Int) : Decidable (PlN a) := inferInstanceAs (Decidable (_ ∧ _))
theorem beq_dec {a b : Int} : (a == b) = decide (a = b) := rfl
theorem place_PlN {a b c : Int} : Place a b c ↔ PlN a ∧ PlN b ∧ PlN c := Iff.rfl

noncomputable def r11fitsS : List AV → PR
  | [.int .i64 a] => .val (.bool (decide (PlN a)))
  | _ => .fail
@[simp] theorem r11fitsS_val {a : Int} : r11fitsS [.int .i64 a] = .val (.bool (decide (PlN a))) := rfl
theorem r11fits_ok : SumOk Tryz.prog 175 (pureS r11fitsS) := by
  refine sum_fn (L := fun _ => none) (n := 1) (S := stOf []) drawS Tryz.T_ok (stOf_ok (by simp)) Tryz.func175 rfl (by kernel_rfl) (by kernel_rfl) ?_
    (by intro args v h; unfold r11fitsS at h; split at h <;> (try split at h) <;> simp at h)
  intro args v h
  unfold r11fitsS at h
  split at h
  · rename_i a
    cases h
    refine ⟨by simp, by simp, by simp, ?_⟩
    by_cases h1 : -4398046511104 ≤ a
    · by_cases h2 : a ≤ 4398046511104
      · simp [Tryz.f175, PlN, h1, h2]
      · simp [Tryz.f175, PlN, h1, h2]
    · simp [Tryz.f175, PlN, h1]
  · simp at h

noncomputable def r11CheckS : List AV → PR
  | [.agg [.int .i64 p1, .int .i64 p2, .int .i64 p3, .int .i64 q0, .int .i64 q1, .int .i64 q2, .int .i64 q3]] => open Classical in if InI p1 ∧ InI p2 ∧ InI p3 ∧ InI q0 ∧ InI q1 ∧ InI q2 ∧ InI q3 then .val (.int .i64 (if Place p1 p2 p3 then (if TurnP q0 q1 q2 q3 then 0 else 9) else 7)) else .fail
  | _ => .fail
@[simp] theorem r11CheckS_val {p1 p2 p3 q0 q1 q2 q3 : Int} (h : InI p1 ∧ InI p2 ∧ InI p3 ∧ InI q0 ∧ InI q1 ∧ InI q2 ∧ InI q3) : r11CheckS [.agg [.int .i64 p1, .int .i64 p2, .int .i64 p3, .int .i64 q0, .int .i64 q1, .int .i64 q2, .int .i64 q3]] = .val (.int .i64 (if Place p1 p2 p3 then (if TurnP q0 q1 q2 q3 then 0 else 9) else 7)) := if_pos h
set_option maxHeartbeats 4000000 in
theorem r11Check_ok : SumOk Tryz.prog 98 (pureS r11CheckS) := by
  refine sum_fn (L := fun _ => none) (n := 1) (S := stOf [(176, pureS r5checkS), (175, pureS r11fitsS)]) drawS Tryz.T_ok (stOf_ok (by simp [r5check_ok, r11fits_ok])) Tryz.func98 rfl (by kernel_rfl) (by kernel_rfl) ?_
    (by intro args v h; unfold r11CheckS at h; split at h <;> (try split at h) <;> simp at h)
  intro args v h
  unfold r11CheckS at h
  split at h
  · rename_i p1 p2 p3 q0 q1 q2 q3
    split at h
    · rename_i hc
      obtain ⟨hp1, hp2, hp3, hq0, hq1, hq2, hq3⟩ := hc
      cases h
      refine ⟨by simp, by simp, by simp, ?_⟩
      by_cases pl : Place p1 p2 p3
      · have pl2 := place_PlN.1 pl
        by_cases tt : TurnP q0 q1 q2 q3
        · simp (maxSteps := 10000000) [hq0, hq1, hq2, hq3, Tryz.f98, pl, pl2.1, pl2.2.1, pl2.2.2, tt]
        · simp (maxSteps := 10000000) [hq0, hq1, hq2, hq3, Tryz.f98, pl, pl2.1, pl2.2.1, pl2.2.2, tt]
      · by_cases k1 : PlN p1
        · by_cases k2 : PlN p2
          · have k3 : ¬ PlN p3 := fun e => pl (place_PlN.2 ⟨k1, k2, e⟩)
            simp (maxSteps := 10000000) [Tryz.f98, pl, k1, k2, k3]
          · simp (maxSteps := 10000000) [Tryz.f98, pl, k1, k2]
        · simp (maxSteps := 10000000) [Tryz.f98, pl, k1]
    · simp at h
  · simp at h

noncomputable def r11OutS : List AV → PR
  | [.agg [.int .i64 p1, .int .i64 p2, .int .i64 p3, .int .i64 q0, .int .i64 q1, .int .i64 q2, .int .i64 q3], .agg [.int .i64 x, .int .i64 y, .int .i64 z]] => open Classical in if InI p1 ∧ InI p2 ∧ InI p3 ∧ InI q0 ∧ InI q1 ∧ InI q2 ∧ InI q3 ∧ InI x ∧ InI y ∧ InI z then .val (if Place p1 p2 p3 ∧ TurnP q0 q1 q2 q3 then .tup [.agg [.int .i64 (clampI ((p1 * 4294967296 + clampI (quoI (r00 q0 q1 q2 q3 * 4294967296) (sq4 q0 q1 q2 q3)) * x + clampI (quoI (r01 q0 q1 q2 q3 * 4294967296) (sq4 q0 q1 q2 q3)) * y + clampI (quoI (r02 q0 q1 q2 q3 * 4294967296) (sq4 q0 q1 q2 q3)) * z) / 4294967296)), .int .i64 (clampI ((p2 * 4294967296 + clampI (quoI (r10 q0 q1 q2 q3 * 4294967296) (sq4 q0 q1 q2 q3)) * x + clampI (quoI (r11 q0 q1 q2 q3 * 4294967296) (sq4 q0 q1 q2 q3)) * y + clampI (quoI (r12 q0 q1 q2 q3 * 4294967296) (sq4 q0 q1 q2 q3)) * z) / 4294967296)), .int .i64 (clampI ((p3 * 4294967296 + clampI (quoI (r20 q0 q1 q2 q3 * 4294967296) (sq4 q0 q1 q2 q3)) * x + clampI (quoI (r21 q0 q1 q2 q3 * 4294967296) (sq4 q0 q1 q2 q3)) * y + clampI (quoI (r22 q0 q1 q2 q3 * 4294967296) (sq4 q0 q1 q2 q3)) * z) / 4294967296))], .int .i64 0] else .tup [.agg [.int .i64 0, .int .i64 0, .int .i64 0], .int .i64 (if Place p1 p2 p3 then (if TurnP q0 q1 q2 q3 then 0 else 9) else 7)]) else .fail
  | _ => .fail
@[simp] theorem r11OutS_val {p1 p2 p3 q0 q1 q2 q3 x y z : Int} (h : InI p1 ∧ InI p2 ∧ InI p3 ∧ InI q0 ∧ InI q1 ∧ InI q2 ∧ InI q3 ∧ InI x ∧ InI y ∧ InI z) : r11OutS [.agg [.int .i64 p1, .int .i64 p2, .int .i64 p3, .int .i64 q0, .int .i64 q1, .int .i64 q2, .int .i64 q3], .agg [.int .i64 x, .int .i64 y, .int .i64 z]] = .val (if Place p1 p2 p3 ∧ TurnP q0 q1 q2 q3 then .tup [.agg [.int .i64 (clampI ((p1 * 4294967296 + clampI (quoI (r00 q0 q1 q2 q3 * 4294967296) (sq4 q0 q1 q2 q3)) * x + clampI (quoI (r01 q0 q1 q2 q3 * 4294967296) (sq4 q0 q1 q2 q3)) * y + clampI (quoI (r02 q0 q1 q2 q3 * 4294967296) (sq4 q0 q1 q2 q3)) * z) / 4294967296)), .int .i64 (clampI ((p2 * 4294967296 + clampI (quoI (r10 q0 q1 q2 q3 * 4294967296) (sq4 q0 q1 q2 q3)) * x + clampI (quoI (r11 q0 q1 q2 q3 * 4294967296) (sq4 q0 q1 q2 q3)) * y + clampI (quoI (r12 q0 q1 q2 q3 * 4294967296) (sq4 q0 q1 q2 q3)) * z) / 4294967296)), .int .i64 (clampI ((p3 * 4294967296 + clampI (quoI (r20 q0 q1 q2 q3 * 4294967296) (sq4 q0 q1 q2 q3)) * x + clampI (quoI (r21 q0 q1 q2 q3 * 4294967296) (sq4 q0 q1 q2 q3)) * y + clampI (quoI (r22 q0 q1 q2 q3 * 4294967296) (sq4 q0 q1 q2 q3)) * z) / 4294967296))], .int .i64 0] else .tup [.agg [.int .i64 0, .int .i64 0, .int .i64 0], .int .i64 (if Place p1 p2 p3 then (if TurnP q0 q1 q2 q3 then 0 else 9) else 7)]) := if_pos h
set_option maxHeartbeats 40000000 in
theorem r11Out_ok : SumOk Tryz.prog 119 (pureS r11OutS) := by
  refine sum_fn (L := fun i => if i = 5 then some (.quiet 12) else if i = 6 then some (.quiet 12) else if i = 7 then some (.quiet 12) else if i = 8 then some (.quiet 7) else none) (n := 1) (S := stOf [(199, pureS r2inS), (159, pureS r3exactS), (162, pureS r3plusS), (192, pureS r3rawS), (194, pureS r3twiceS), (146, pureS r5MatrixS), (98, pureS r11CheckS)]) drawS Tryz.T_ok (stOf_ok (by simp [r2in_ok, r3exact_ok, r3plus_ok, r3raw_ok, r3twice_ok, r5Matrix_ok, r11Check_ok])) Tryz.func119 rfl (by kernel_rfl) (by kernel_rfl) ?_
    (by intro args v h; unfold r11OutS at h; split at h <;> (try split at h) <;> simp at h)
  intro args v h
  unfold r11OutS at h
  split at h
  · rename_i p1 p2 p3 q0 q1 q2 q3 x y z
    split at h
    · rename_i hc
      obtain ⟨hp1, hp2, hp3, hq0, hq1, hq2, hq3, hx, hy, hz⟩ := hc
      cases h
      refine ⟨by simp, by (split <;> simp), by (split <;> simp), ?_⟩
      by_cases pl : Place p1 p2 p3
      · have pl2 := place_PlN.1 pl
        by_cases tt : TurnP q0 q1 q2 q3
        · obtain ⟨m00, hm00⟩ : ∃ c, clampI (quoI (r00 q0 q1 q2 q3 * 4294967296) (sq4 q0 q1 q2 q3)) = c := ⟨_, rfl⟩
          have jm00 : InI m00 := by rw [← hm00]; exact InI_clamp _
          obtain ⟨m01, hm01⟩ : ∃ c, clampI (quoI (r01 q0 q1 q2 q3 * 4294967296) (sq4 q0 q1 q2 q3)) = c := ⟨_, rfl⟩
          have jm01 : InI m01 := by rw [← hm01]; exact InI_clamp _
          obtain ⟨m02, hm02⟩ : ∃ c, clampI (quoI (r02 q0 q1 q2 q3 * 4294967296) (sq4 q0 q1 q2 q3)) = c := ⟨_, rfl⟩
          have jm02 : InI m02 := by rw [← hm02]; exact InI_clamp _
          have ta0 : Bd 129 (m00 * x + m01 * y + m02 * z) := ((Bd.of jm00).mul (Bd.of hx)).add ((Bd.of jm01).mul (Bd.of hy)) |>.add (((Bd.of jm02).mul (Bd.of hz)).mono (by decide)) |>.mono (by decide)
          have tb0 : Bd 95 (p1 * 4294967296) := by simpa using (Bd.of hp1).shl 32
          have tc0 := ta0.add (tb0.mono (by decide : 95 ≤ 129))
          have wa0 := ta0.w (by decide)
          have wb0 := tb0.w (by decide)
          have wc0 := tc0.w (by decide)
          have ec0 : m00 * x + m01 * y + m02 * z + p1 * 4294967296 = p1 * 4294967296 + m00 * x + m01 * y + m02 * z := by omega
          have wd0 := sval_limb wc0
          rw [ec0] at wc0 wd0
          obtain ⟨m10, hm10⟩ : ∃ c, clampI (quoI (r10 q0 q1 q2 q3 * 4294967296) (sq4 q0 q1 q2 q3)) = c := ⟨_, rfl⟩
          have jm10 : InI m10 := by rw [← hm10]; exact InI_clamp _
          obtain ⟨m11, hm11⟩ : ∃ c, clampI (quoI (r11 q0 q1 q2 q3 * 4294967296) (sq4 q0 q1 q2 q3)) = c := ⟨_, rfl⟩
          have jm11 : InI m11 := by rw [← hm11]; exact InI_clamp _
          obtain ⟨m12, hm12⟩ : ∃ c, clampI (quoI (r12 q0 q1 q2 q3 * 4294967296) (sq4 q0 q1 q2 q3)) = c := ⟨_, rfl⟩
          have jm12 : InI m12 := by rw [← hm12]; exact InI_clamp _
          have ta1 : Bd 129 (m10 * x + m11 * y + m12 * z) := ((Bd.of jm10).mul (Bd.of hx)).add ((Bd.of jm11).mul (Bd.of hy)) |>.add (((Bd.of jm12).mul (Bd.of hz)).mono (by decide)) |>.mono (by decide)
          have tb1 : Bd 95 (p2 * 4294967296) := by simpa using (Bd.of hp2).shl 32
          have tc1 := ta1.add (tb1.mono (by decide : 95 ≤ 129))
          have wa1 := ta1.w (by decide)
          have wb1 := tb1.w (by decide)
          have wc1 := tc1.w (by decide)
          have ec1 : m10 * x + m11 * y + m12 * z + p2 * 4294967296 = p2 * 4294967296 + m10 * x + m11 * y + m12 * z := by omega
          have wd1 := sval_limb wc1
          rw [ec1] at wc1 wd1
          obtain ⟨m20, hm20⟩ : ∃ c, clampI (quoI (r20 q0 q1 q2 q3 * 4294967296) (sq4 q0 q1 q2 q3)) = c := ⟨_, rfl⟩
          have jm20 : InI m20 := by rw [← hm20]; exact InI_clamp _
          obtain ⟨m21, hm21⟩ : ∃ c, clampI (quoI (r21 q0 q1 q2 q3 * 4294967296) (sq4 q0 q1 q2 q3)) = c := ⟨_, rfl⟩
          have jm21 : InI m21 := by rw [← hm21]; exact InI_clamp _
          obtain ⟨m22, hm22⟩ : ∃ c, clampI (quoI (r22 q0 q1 q2 q3 * 4294967296) (sq4 q0 q1 q2 q3)) = c := ⟨_, rfl⟩
          have jm22 : InI m22 := by rw [← hm22]; exact InI_clamp _
          have ta2 : Bd 129 (m20 * x + m21 * y + m22 * z) := ((Bd.of jm20).mul (Bd.of hx)).add ((Bd.of jm21).mul (Bd.of hy)) |>.add (((Bd.of jm22).mul (Bd.of hz)).mono (by decide)) |>.mono (by decide)
          have tb2 : Bd 95 (p3 * 4294967296) := by simpa using (Bd.of hp3).shl 32
          have tc2 := ta2.add (tb2.mono (by decide : 95 ≤ 129))
          have wa2 := ta2.w (by decide)
          have wb2 := tb2.w (by decide)
          have wc2 := tc2.w (by decide)
          have ec2 : m20 * x + m21 * y + m22 * z + p3 * 4294967296 = p3 * 4294967296 + m20 * x + m21 * y + m22 * z := by omega
          have wd2 := sval_limb wc2
          rw [ec2] at wc2 wd2
          simp (maxSteps := 10000000) [hp1, hp2, hp3, hq0, hq1, hq2, hq3, hx, hy, hz, fitI hp1, fitI hp2, fitI hp3, R8_limb, Tryz.f119, pl, tt, hm00, jm00, hm01, jm01, hm02, jm02, sval_limb wa0, wb0, sval_limb wb0, wc0, wd0, ec0, hm10, jm10, hm11, jm11, hm12, jm12, sval_limb wa1, wb1, sval_limb wb1, wc1, wd1, ec1, hm20, jm20, hm21, jm21, hm22, jm22, sval_limb wa2, wb2, sval_limb wb2, wc2, wd2, ec2]
        · simp (maxSteps := 10000000) [hp1, hp2, hp3, hq0, hq1, hq2, hq3, Tryz.f119, pl, tt]
      · by_cases k1 : PlN p1
        · by_cases k2 : PlN p2
          · have k3 : ¬ PlN p3 := fun e => pl (place_PlN.2 ⟨k1, k2, e⟩)
            simp (maxSteps := 10000000) [hp1, hp2, hp3, hq0, hq1, hq2, hq3, Tryz.f119, pl]
          · simp (maxSteps := 10000000) [hp1, hp2, hp3, hq0, hq1, hq2, hq3, Tryz.f119, pl]
        · simp (maxSteps := 10000000) [hp1, hp2, hp3, hq0, hq1, hq2, hq3, Tryz.f119, pl]
    · simp at h
  · simp at h

end Go.X
