/- Quaternions: the reference's matrix; what is always told; the laws that ask the document's answer. -/
import Derived.Test.YtgfpllfimpgooaaGreatJMU
namespace Go.X
open Go.Proofs
attribute [local irreducible] Good

theorem InI_clamp (z : Int) : InI (clampI z) := clampI_in z

noncomputable def r5MatrixS : List AV → PR
  | [.agg [.int .i64 a, .int .i64 b, .int .i64 c, .int .i64 d]] => open Classical in if InI a ∧ InI b ∧ InI c ∧ InI d then .val (if TurnP a b c d then .tup [.agg [.int .i64 (clampI (quoI (r00 a b c d * 4294967296) (sq4 a b c d))), .int .i64 (clampI (quoI (r01 a b c d * 4294967296) (sq4 a b c d))), .int .i64 (clampI (quoI (r02 a b c d * 4294967296) (sq4 a b c d))), .int .i64 (clampI (quoI (r10 a b c d * 4294967296) (sq4 a b c d))), .int .i64 (clampI (quoI (r11 a b c d * 4294967296) (sq4 a b c d))), .int .i64 (clampI (quoI (r12 a b c d * 4294967296) (sq4 a b c d))), .int .i64 (clampI (quoI (r20 a b c d * 4294967296) (sq4 a b c d))), .int .i64 (clampI (quoI (r21 a b c d * 4294967296) (sq4 a b c d))), .int .i64 (clampI (quoI (r22 a b c d * 4294967296) (sq4 a b c d)))], .int .i64 0] else .tup [.agg [.int .i64 0, .int .i64 0, .int .i64 0, .int .i64 0, .int .i64 0, .int .i64 0, .int .i64 0, .int .i64 0, .int .i64 0], .int .i64 9]) else .fail
  | _ => .fail
@[simp] theorem r5MatrixS_val {a b c d : Int} (h : InI a ∧ InI b ∧ InI c ∧ InI d) : r5MatrixS [.agg [.int .i64 a, .int .i64 b, .int .i64 c, .int .i64 d]] = .val (if TurnP a b c d then .tup [.agg [.int .i64 (clampI (quoI (r00 a b c d * 4294967296) (sq4 a b c d))), .int .i64 (clampI (quoI (r01 a b c d * 4294967296) (sq4 a b c d))), .int .i64 (clampI (quoI (r02 a b c d * 4294967296) (sq4 a b c d))), .int .i64 (clampI (quoI (r10 a b c d * 4294967296) (sq4 a b c d))), .int .i64 (clampI (quoI (r11 a b c d * 4294967296) (sq4 a b c d))), .int .i64 (clampI (quoI (r12 a b c d * 4294967296) (sq4 a b c d))), .int .i64 (clampI (quoI (r20 a b c d * 4294967296) (sq4 a b c d))), .int .i64 (clampI (quoI (r21 a b c d * 4294967296) (sq4 a b c d))), .int .i64 (clampI (quoI (r22 a b c d * 4294967296) (sq4 a b c d)))], .int .i64 0] else .tup [.agg [.int .i64 0, .int .i64 0, .int .i64 0, .int .i64 0, .int .i64 0, .int .i64 0, .int .i64 0, .int .i64 0, .int .i64 0], .int .i64 9]) := if_pos h
set_option maxHeartbeats 40000000 in
set_option maxRecDepth 100000 in
theorem r5Matrix_ok : SumOk Tryz.prog 146 (pureS r5MatrixS) := by
  refine sum_fn (L := fun i => if i = 4 then some (.quiet 24) else if i = 5 then some (.quiet 18) else if i = 6 then some (.quiet 18) else if i = 8 then some (.quiet 12) else if i = 9 then some (.quiet 9) else if i = 10 then some (.quiet 9) else if i = 11 then some (.quiet 9) else if i = 12 then some (.quiet 12) else if i = 13 then some (.quiet 9) else if i = 14 then some (.quiet 9) else if i = 15 then some (.quiet 9) else if i = 16 then some (.quiet 12) else none) (n := 1) (S := stOf [(218, pureS r3lessS), (162, pureS r3plusS), (194, pureS r3twiceS), (176, pureS r5checkS), (178, pureS r5squareS), (217, pureS r5byS), (216, pureS r5mulS)]) drawS Tryz.T_ok (stOf_ok (by simp [r3less_ok, r3plus_ok, r3twice_ok, r5check_ok, r5square_ok, r5by_ok, r5mul_ok])) Tryz.func146 rfl (by kernel_rfl) (by kernel_rfl) ?_
    (by intro args v h; unfold r5MatrixS at h; split at h <;> (try split at h) <;> simp at h)
  intro args v h
  unfold r5MatrixS at h
  split at h
  · rename_i a b c d
    split at h
    · rename_i hc
      obtain ⟨ha, hb, hc, hd⟩ := hc
      cases h
      refine ⟨by simp, by (split <;> simp), by (split <;> simp), ?_⟩
      have i0 : InW (a * a) := ((Bd.of ha).mul (Bd.of ha)).w (by decide)
      have i1 : InW (b * b) := ((Bd.of hb).mul (Bd.of hb)).w (by decide)
      have i2 : InW (c * c) := ((Bd.of hc).mul (Bd.of hc)).w (by decide)
      have i3 : InW (d * d) := ((Bd.of hd).mul (Bd.of hd)).w (by decide)
      have i4 : InW (b * c) := ((Bd.of hb).mul (Bd.of hc)).w (by decide)
      have i5 : InW (b * d) := ((Bd.of hb).mul (Bd.of hd)).w (by decide)
      have i6 : InW (c * d) := ((Bd.of hc).mul (Bd.of hd)).w (by decide)
      have i7 : InW (a * b) := ((Bd.of ha).mul (Bd.of hb)).w (by decide)
      have i8 : InW (a * c) := ((Bd.of ha).mul (Bd.of hc)).w (by decide)
      have i9 : InW (a * d) := ((Bd.of ha).mul (Bd.of hd)).w (by decide)
      have i10 : InW (a * a + b * b) := (((Bd.of ha).mul (Bd.of ha)).add ((Bd.of hb).mul (Bd.of hb))).w (by decide)
      have i11 : InW (c * c + d * d) := (((Bd.of hc).mul (Bd.of hc)).add ((Bd.of hd).mul (Bd.of hd))).w (by decide)
      have i12 : InW (a * a + c * c) := (((Bd.of ha).mul (Bd.of ha)).add ((Bd.of hc).mul (Bd.of hc))).w (by decide)
      have i13 : InW (b * b + d * d) := (((Bd.of hb).mul (Bd.of hb)).add ((Bd.of hd).mul (Bd.of hd))).w (by decide)
      have i14 : InW (a * a + d * d) := (((Bd.of ha).mul (Bd.of ha)).add ((Bd.of hd).mul (Bd.of hd))).w (by decide)
      have i15 : InW (b * b + c * c) := (((Bd.of hb).mul (Bd.of hb)).add ((Bd.of hc).mul (Bd.of hc))).w (by decide)
      have i16 : InW (b * c - a * d) := (((Bd.of hb).mul (Bd.of hc)).sub ((Bd.of ha).mul (Bd.of hd))).w (by decide)
      have i17 : InW (b * d + a * c) := (((Bd.of hb).mul (Bd.of hd)).add ((Bd.of ha).mul (Bd.of hc))).w (by decide)
      have i18 : InW (b * c + a * d) := (((Bd.of hb).mul (Bd.of hc)).add ((Bd.of ha).mul (Bd.of hd))).w (by decide)
      have i19 : InW (c * d - a * b) := (((Bd.of hc).mul (Bd.of hd)).sub ((Bd.of ha).mul (Bd.of hb))).w (by decide)
      have i20 : InW (b * d - a * c) := (((Bd.of hb).mul (Bd.of hd)).sub ((Bd.of ha).mul (Bd.of hc))).w (by decide)
      have i21 : InW (c * d + a * b) := (((Bd.of hc).mul (Bd.of hd)).add ((Bd.of ha).mul (Bd.of hb))).w (by decide)
      have sb := (Bd_sq4 (Bd.of ha) (Bd.of hb) (Bd.of hc) (Bd.of hd)).w (by decide)
      obtain ⟨ur00, ur01, ur02, ur10, ur11, ur12, ur20, ur21, ur22⟩ := Bd_r (Bd.of ha) (Bd.of hb) (Bd.of hc) (Bd.of hd)
      have eqr00 : a * a + b * b - (c * c + d * d) = r00 a b c d := by unfold r00; grind
      have vr00 := ur00.w (by decide)
      have nr00 : Bd 163 (r00 a b c d * 4294967296) := by simpa using ur00.shl 32
      have mr00 := nr00.w (by decide)
      have eqr01 : (b * c - a * d) * 2 = r01 a b c d := by unfold r01; grind
      have vr01 := ur01.w (by decide)
      have nr01 : Bd 163 (r01 a b c d * 4294967296) := by simpa using ur01.shl 32
      have mr01 := nr01.w (by decide)
      have eqr02 : (b * d + a * c) * 2 = r02 a b c d := by unfold r02; grind
      have vr02 := ur02.w (by decide)
      have nr02 : Bd 163 (r02 a b c d * 4294967296) := by simpa using ur02.shl 32
      have mr02 := nr02.w (by decide)
      have eqr10 : (b * c + a * d) * 2 = r10 a b c d := by unfold r10; grind
      have vr10 := ur10.w (by decide)
      have nr10 : Bd 163 (r10 a b c d * 4294967296) := by simpa using ur10.shl 32
      have mr10 := nr10.w (by decide)
      have eqr11 : a * a + c * c - (b * b + d * d) = r11 a b c d := by unfold r11; grind
      have vr11 := ur11.w (by decide)
      have nr11 : Bd 163 (r11 a b c d * 4294967296) := by simpa using ur11.shl 32
      have mr11 := nr11.w (by decide)
      have eqr12 : (c * d - a * b) * 2 = r12 a b c d := by unfold r12; grind
      have vr12 := ur12.w (by decide)
      have nr12 : Bd 163 (r12 a b c d * 4294967296) := by simpa using ur12.shl 32
      have mr12 := nr12.w (by decide)
      have eqr20 : (b * d - a * c) * 2 = r20 a b c d := by unfold r20; grind
      have vr20 := ur20.w (by decide)
      have nr20 : Bd 163 (r20 a b c d * 4294967296) := by simpa using ur20.shl 32
      have mr20 := nr20.w (by decide)
      have eqr21 : (c * d + a * b) * 2 = r21 a b c d := by unfold r21; grind
      have vr21 := ur21.w (by decide)
      have nr21 : Bd 163 (r21 a b c d * 4294967296) := by simpa using ur21.shl 32
      have mr21 := nr21.w (by decide)
      have eqr22 : a * a + d * d - (b * b + c * c) = r22 a b c d := by unfold r22; grind
      have vr22 := ur22.w (by decide)
      have nr22 : Bd 163 (r22 a b c d * 4294967296) := by simpa using ur22.shl 32
      have mr22 := nr22.w (by decide)
      by_cases tt : TurnP a b c d
      · have sp := Turn_pos tt
        have sz : sq4 a b c d ≠ 0 := by omega
        have qr00 := (nr00.quoI sp).w (by decide)
        have qr01 := (nr01.quoI sp).w (by decide)
        have qr02 := (nr02.quoI sp).w (by decide)
        have qr10 := (nr10.quoI sp).w (by decide)
        have qr11 := (nr11.quoI sp).w (by decide)
        have qr12 := (nr12.quoI sp).w (by decide)
        have qr20 := (nr20.quoI sp).w (by decide)
        have qr21 := (nr21.quoI sp).w (by decide)
        have qr22 := (nr22.quoI sp).w (by decide)
        simp (maxSteps := 10000000) [ha, hb, hc, hd, sval_limb i0, sval_limb i1, sval_limb i2, sval_limb i3, sval_limb i4, sval_limb i5, sval_limb i6, sval_limb i7, sval_limb i8, sval_limb i9, i10, sval_limb i10, i11, sval_limb i11, i12, sval_limb i12, i13, sval_limb i13, i14, sval_limb i14, i15, sval_limb i15, i16, sval_limb i16, i17, sval_limb i17, i18, sval_limb i18, i19, sval_limb i19, i20, sval_limb i20, i21, sval_limb i21, R8_limb, sval_limb sb, eqr00, vr00, sval_limb vr00, mr00, eqr01, vr01, sval_limb vr01, mr01, eqr02, vr02, sval_limb vr02, mr02, eqr10, vr10, sval_limb vr10, mr10, eqr11, vr11, sval_limb vr11, mr11, eqr12, vr12, sval_limb vr12, mr12, eqr20, vr20, sval_limb vr20, mr20, eqr21, vr21, sval_limb vr21, mr21, eqr22, vr22, sval_limb vr22, mr22, Tryz.f146, tt, sz, qr00, qr01, qr02, qr10, qr11, qr12, qr20, qr21, qr22]
      · simp [ha, hb, hc, hd, Tryz.f146, tt]
    · simp at h
  · simp at h

end Go.X
