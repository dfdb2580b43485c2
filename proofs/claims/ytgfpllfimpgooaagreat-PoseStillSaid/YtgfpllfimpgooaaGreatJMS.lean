/- Quaternions: products and the rotation back, in package quat and in the reference 05. -/
import Derived.Test.YtgfpllfimpgooaaGreatJMR
namespace Go.X
open Go.Proofs
attribute [local irreducible] Good

theorem InW_62 : InW 4611686018427387904 := InI.w (by decide)
theorem InW_66 : InW 73786976294838206464 := (show Bd 67 73786976294838206464 by unfold Bd; decide).w (by decide)
theorem InI_1 : InI 1 := by decide

noncomputable def qcheckS : List AV → PR
  | [.agg [.int .i64 a, .int .i64 b, .int .i64 c, .int .i64 d]] => open Classical in if InI a ∧ InI b ∧ InI c ∧ InI d then .val (.int .i64 (if TurnP a b c d then 0 else 9)) else .fail
  | _ => .fail
@[simp] theorem qcheckS_val {a b c d : Int} (h : InI a ∧ InI b ∧ InI c ∧ InI d) : qcheckS [.agg [.int .i64 a, .int .i64 b, .int .i64 c, .int .i64 d]] = .val (.int .i64 (if TurnP a b c d then 0 else 9)) := if_pos h
set_option maxHeartbeats 4000000 in
theorem qcheck_ok : SumOk Tryz.prog 113 (pureS qcheckS) := by
  refine sum_fn (L := fun _ => none) (n := 1) (S := stOf [(114, pureS qrawS), (115, pureS qsquareS), (196, pureS cmpS), (105, pureS ofS), (122, pureS shlS)]) drawS Tryz.T_ok (stOf_ok (by simp [qraw_ok, qsquare_ok, cmp_ok, of_ok, shl_ok])) Tryz.func113 rfl (by kernel_rfl) (by kernel_rfl) ?_
    (by intro args v h; unfold qcheckS at h; split at h <;> (try split at h) <;> simp at h)
  intro args v h
  unfold qcheckS at h
  split at h
  · rename_i a b c d
    split at h
    · rename_i hc
      obtain ⟨ha, hb, hc, hd⟩ := hc
      cases h
      refine ⟨by simp, by simp, by simp, ?_⟩
      have sb := Bd_sq4 (Bd.of ha) (Bd.of hb) (Bd.of hc) (Bd.of hd)
      have si := sb.w (by decide)
      by_cases ll : sq4 a b c d < 4611686018427387904
      · have t : ¬ TurnP a b c d := fun e => by unfold TurnP at e; omega
        have k := cmpI_neg.2 ll
        simp [ha, hb, hc, hd, fitI ha, fitI hb, fitI hc, fitI hd, R8_limb, Bd.of ha, Bd.of hb, Bd.of hc, Bd.of hd, shlV, fitV, InW_62, InW_66, sval_limb InW_62, ofS_in InI_1, fitI InI_1, Tryz.f113, sval_limb si, t, k]
      · have k : ¬ cmpI (sq4 a b c d) 4611686018427387904 < 0 := fun e => ll (cmpI_neg.1 e)
        by_cases hh : 73786976294838206464 < sq4 a b c d
        · have t : ¬ TurnP a b c d := fun e => by unfold TurnP at e; omega
          have k2 := cmpI_pos.2 hh
          simp [ha, hb, hc, hd, fitI ha, fitI hb, fitI hc, fitI hd, R8_limb, Bd.of ha, Bd.of hb, Bd.of hc, Bd.of hd, shlV, fitV, InW_62, InW_66, sval_limb InW_62, sval_limb InW_66, ofS_in InI_1, fitI InI_1, Tryz.f113, sval_limb si, t, k, k2]
        · have t : TurnP a b c d := by unfold TurnP; omega
          have k2 : ¬ 0 < cmpI (sq4 a b c d) 73786976294838206464 := fun e => hh (cmpI_pos.1 e)
          simp [ha, hb, hc, hd, fitI ha, fitI hb, fitI hc, fitI hd, R8_limb, Bd.of ha, Bd.of hb, Bd.of hc, Bd.of hd, shlV, fitV, InW_62, InW_66, sval_limb InW_62, sval_limb InW_66, ofS_in InI_1, fitI InI_1, Tryz.f113, sval_limb si, t, k, k2]
    · simp at h
  · simp at h

noncomputable def r5mulS : List AV → PR
  | [.int .i64 a, .int .i64 b] => open Classical in if InI a ∧ InI b then .val (W (a * b)) else .fail
  | _ => .fail
@[simp] theorem r5mulS_val {a b : Int} (h : InI a ∧ InI b) : r5mulS [.int .i64 a, .int .i64 b] = .val (W (a * b)) := if_pos h
theorem r5mul_ok : SumOk Tryz.prog 216 (pureS r5mulS) := by
  refine sum_fn (L := fun _ => none) (n := 1) (S := stOf [(192, pureS r3rawS), (161, pureS r3timesS)]) drawS Tryz.T_ok (stOf_ok (by simp [r3raw_ok, r3times_ok])) Tryz.func216 rfl (by kernel_rfl) (by kernel_rfl) ?_
    (by intro args v h; unfold r5mulS at h; split at h <;> (try split at h) <;> simp at h)
  intro args v h
  unfold r5mulS at h
  split at h
  · rename_i a b
    split at h
    · rename_i hc
      obtain ⟨ha, hb⟩ := hc
      cases h
      refine ⟨by simp, by simp, by simp, ?_⟩
      have i0 : InW (a * b) := ((Bd.of ha).mul (Bd.of hb)).w (by decide)
      simp [Tryz.f216, ha, hb, fitI ha, fitI hb, i0, R8_limb]
    · simp at h
  · simp at h

noncomputable def r5twoS : List AV → PR
  | [.int .i64 a, .int .i64 b, .int .i64 c, .int .i64 d] => open Classical in if InI a ∧ InI b ∧ InI c ∧ InI d then .val (W (a * b + c * d)) else .fail
  | _ => .fail
@[simp] theorem r5twoS_val {a b c d : Int} (h : InI a ∧ InI b ∧ InI c ∧ InI d) : r5twoS [.int .i64 a, .int .i64 b, .int .i64 c, .int .i64 d] = .val (W (a * b + c * d)) := if_pos h
theorem r5two_ok : SumOk Tryz.prog 235 (pureS r5twoS) := by
  refine sum_fn (L := fun _ => none) (n := 1) (S := stOf [(162, pureS r3plusS), (216, pureS r5mulS)]) drawS Tryz.T_ok (stOf_ok (by simp [r3plus_ok, r5mul_ok])) Tryz.func235 rfl (by kernel_rfl) (by kernel_rfl) ?_
    (by intro args v h; unfold r5twoS at h; split at h <;> (try split at h) <;> simp at h)
  intro args v h
  unfold r5twoS at h
  split at h
  · rename_i a b c d
    split at h
    · rename_i hc
      obtain ⟨ha, hb, hc, hd⟩ := hc
      cases h
      refine ⟨by simp, by simp, by simp, ?_⟩
      have i0 : InW (a * b) := ((Bd.of ha).mul (Bd.of hb)).w (by decide)
      have i1 : InW (c * d) := ((Bd.of hc).mul (Bd.of hd)).w (by decide)
      have i2 : InW (a * b + c * d) := (((Bd.of ha).mul (Bd.of hb)).add ((Bd.of hc).mul (Bd.of hd))).w (by decide)
      simp [Tryz.f235, ha, hb, hc, hd, sval_limb i0, sval_limb i1, i2, R8_limb]
    · simp at h
  · simp at h

noncomputable def r5squareS : List AV → PR
  | [.agg [.int .i64 a, .int .i64 b, .int .i64 c, .int .i64 d]] => open Classical in if InI a ∧ InI b ∧ InI c ∧ InI d then .val (W (sq4 a b c d)) else .fail
  | _ => .fail
@[simp] theorem r5squareS_val {a b c d : Int} (h : InI a ∧ InI b ∧ InI c ∧ InI d) : r5squareS [.agg [.int .i64 a, .int .i64 b, .int .i64 c, .int .i64 d]] = .val (W (sq4 a b c d)) := if_pos h
theorem r5square_ok : SumOk Tryz.prog 178 (pureS r5squareS) := by
  refine sum_fn (L := fun i => if i = 1 then some (.quiet 19) else none) (n := 1) (S := stOf [(162, pureS r3plusS), (235, pureS r5twoS)]) drawS Tryz.T_ok (stOf_ok (by simp [r3plus_ok, r5two_ok])) Tryz.func178 rfl (by kernel_rfl) (by kernel_rfl) ?_
    (by intro args v h; unfold r5squareS at h; split at h <;> (try split at h) <;> simp at h)
  intro args v h
  unfold r5squareS at h
  split at h
  · rename_i a b c d
    split at h
    · rename_i hc
      obtain ⟨ha, hb, hc, hd⟩ := hc
      cases h
      refine ⟨by simp, by simp, by simp, ?_⟩
      have i0 : InW (a * a + b * b) := (((Bd.of ha).mul (Bd.of ha)).add ((Bd.of hb).mul (Bd.of hb))).w (by decide)
      have i1 : InW (c * c + d * d) := (((Bd.of hc).mul (Bd.of hc)).add ((Bd.of hd).mul (Bd.of hd))).w (by decide)
      have i2 : InW (a * a + b * b + (c * c + d * d)) := ((((Bd.of ha).mul (Bd.of ha)).add ((Bd.of hb).mul (Bd.of hb))).add (((Bd.of hc).mul (Bd.of hc)).add ((Bd.of hd).mul (Bd.of hd)))).w (by decide)
      have e : a * a + b * b + (c * c + d * d) = sq4 a b c d := by unfold sq4; grind
      simp [Tryz.f178, ha, hb, hc, hd, sval_limb i0, sval_limb i1, i2, R8_limb]
      rw [e]
      exact Eqv.refl _
    · simp at h
  · simp at h

noncomputable def r5checkS : List AV → PR
  | [.agg [.int .i64 a, .int .i64 b, .int .i64 c, .int .i64 d]] => open Classical in if InI a ∧ InI b ∧ InI c ∧ InI d then .val (.int .i64 (if TurnP a b c d then 0 else 9)) else .fail
  | _ => .fail
@[simp] theorem r5checkS_val {a b c d : Int} (h : InI a ∧ InI b ∧ InI c ∧ InI d) : r5checkS [.agg [.int .i64 a, .int .i64 b, .int .i64 c, .int .i64 d]] = .val (.int .i64 (if TurnP a b c d then 0 else 9)) := if_pos h
set_option maxHeartbeats 4000000 in
theorem r5check_ok : SumOk Tryz.prog 176 (pureS r5checkS) := by
  refine sum_fn (L := fun _ => none) (n := 1) (S := stOf [(234, pureS cmpS), (163, pureS ofS), (194, pureS r3twiceS), (178, pureS r5squareS)]) drawS Tryz.T_ok (stOf_ok (by simp [rcmp_ok, small_ok, r3twice_ok, r5square_ok])) Tryz.func176 rfl (by kernel_rfl) (by kernel_rfl) ?_
    (by intro args v h; unfold r5checkS at h; split at h <;> (try split at h) <;> simp at h)
  intro args v h
  unfold r5checkS at h
  split at h
  · rename_i a b c d
    split at h
    · rename_i hc
      obtain ⟨ha, hb, hc, hd⟩ := hc
      cases h
      refine ⟨by simp, by simp, by simp, ?_⟩
      have sb := Bd_sq4 (Bd.of ha) (Bd.of hb) (Bd.of hc) (Bd.of hd)
      have si := sb.w (by decide)
      by_cases ll : sq4 a b c d < 4611686018427387904
      · have t : ¬ TurnP a b c d := fun e => by unfold TurnP at e; omega
        have k := cmpI_neg.2 ll
        simp [ha, hb, hc, hd, R8_limb, InW_62, sval_limb InW_62, ofS_in InI_1, fitI InI_1, Tryz.f176, sval_limb si, t, k]
      · have k : ¬ cmpI (sq4 a b c d) 4611686018427387904 < 0 := fun e => ll (cmpI_neg.1 e)
        by_cases hh : 73786976294838206464 < sq4 a b c d
        · have t : ¬ TurnP a b c d := fun e => by unfold TurnP at e; omega
          have k2 := cmpI_pos.2 hh
          simp [ha, hb, hc, hd, R8_limb, InW_62, InW_66, sval_limb InW_62, sval_limb InW_66, ofS_in InI_1, fitI InI_1, Tryz.f176, sval_limb si, t, k, k2]
        · have t : TurnP a b c d := by unfold TurnP; omega
          have k2 : ¬ 0 < cmpI (sq4 a b c d) 73786976294838206464 := fun e => hh (cmpI_pos.1 e)
          simp [ha, hb, hc, hd, R8_limb, InW_62, InW_66, sval_limb InW_62, sval_limb InW_66, ofS_in InI_1, fitI InI_1, Tryz.f176, sval_limb si, t, k, k2]
    · simp at h
  · simp at h

noncomputable def r5WS : List AV → PR
  | [.agg [.int .i64 a, .int .i64 b, .int .i64 c, .int .i64 d], .agg [.int .i64 e, .int .i64 f, .int .i64 g, .int .i64 k]] => open Classical in if InI a ∧ InI b ∧ InI c ∧ InI d ∧ InI e ∧ InI f ∧ InI g ∧ InI k then .val (W (qW a b c d e f g k)) else .fail
  | _ => .fail
@[simp] theorem r5WS_val {a b c d e f g k : Int} (h : InI a ∧ InI b ∧ InI c ∧ InI d ∧ InI e ∧ InI f ∧ InI g ∧ InI k) : r5WS [.agg [.int .i64 a, .int .i64 b, .int .i64 c, .int .i64 d], .agg [.int .i64 e, .int .i64 f, .int .i64 g, .int .i64 k]] = .val (W (qW a b c d e f g k)) := if_pos h
set_option maxHeartbeats 4000000 in
theorem r5W_ok : SumOk Tryz.prog 181 (pureS r5WS) := by
  refine sum_fn (L := fun i => if i = 1 then some (.quiet 21) else none) (n := 1) (S := stOf [(218, pureS r3lessS), (162, pureS r3plusS), (216, pureS r5mulS), (235, pureS r5twoS)]) drawS Tryz.T_ok (stOf_ok (by simp [r3less_ok, r3plus_ok, r5mul_ok, r5two_ok])) Tryz.func181 rfl (by kernel_rfl) (by kernel_rfl) ?_
    (by intro args v h; unfold r5WS at h; split at h <;> (try split at h) <;> simp at h)
  intro args v h
  unfold r5WS at h
  split at h
  · rename_i a b c d e f g k
    split at h
    · rename_i hc
      obtain ⟨ha, hb, hc, hd, he, hf, hg, hk⟩ := hc
      cases h
      refine ⟨by simp, by simp, by simp, ?_⟩
      have i0 : InW (a * e) := ((Bd.of ha).mul (Bd.of he)).w (by decide)
      have i1 : InW (b * f) := ((Bd.of hb).mul (Bd.of hf)).w (by decide)
      have i2 : InW (c * g) := ((Bd.of hc).mul (Bd.of hg)).w (by decide)
      have i3 : InW (d * k) := ((Bd.of hd).mul (Bd.of hk)).w (by decide)
      have i4 : InW (b * f + c * g) := (((Bd.of hb).mul (Bd.of hf)).add ((Bd.of hc).mul (Bd.of hg))).w (by decide)
      have i5 : InW (b * f + c * g + d * k) := ((((Bd.of hb).mul (Bd.of hf)).add ((Bd.of hc).mul (Bd.of hg))).add (((Bd.of hd).mul (Bd.of hk)).mono (by decide : 126 ≤ 127))).w (by decide)
      have i6 : InW (a * e - (b * f + c * g + d * k)) := ((((Bd.of ha).mul (Bd.of he)).mono (by decide : 126 ≤ 128)).sub ((((Bd.of hb).mul (Bd.of hf)).add ((Bd.of hc).mul (Bd.of hg))).add (((Bd.of hd).mul (Bd.of hk)).mono (by decide : 126 ≤ 127)))).w (by decide)
      have eq1 : a * e - (b * f + c * g + d * k) = qW a b c d e f g k := by unfold qW; grind
      simp [Tryz.f181, ha, hb, hc, hd, he, hf, hg, hk, sval_limb i0, sval_limb i3, sval_limb i4, i5, sval_limb i5, i6, R8_limb]
      rw [eq1]
      exact Eqv.refl _
    · simp at h
  · simp at h

noncomputable def r5XS : List AV → PR
  | [.agg [.int .i64 a, .int .i64 b, .int .i64 c, .int .i64 d], .agg [.int .i64 e, .int .i64 f, .int .i64 g, .int .i64 k]] => open Classical in if InI a ∧ InI b ∧ InI c ∧ InI d ∧ InI e ∧ InI f ∧ InI g ∧ InI k then .val (W (qX a b c d e f g k)) else .fail
  | _ => .fail
@[simp] theorem r5XS_val {a b c d e f g k : Int} (h : InI a ∧ InI b ∧ InI c ∧ InI d ∧ InI e ∧ InI f ∧ InI g ∧ InI k) : r5XS [.agg [.int .i64 a, .int .i64 b, .int .i64 c, .int .i64 d], .agg [.int .i64 e, .int .i64 f, .int .i64 g, .int .i64 k]] = .val (W (qX a b c d e f g k)) := if_pos h
set_option maxHeartbeats 4000000 in
theorem r5X_ok : SumOk Tryz.prog 182 (pureS r5XS) := by
  refine sum_fn (L := fun i => if i = 1 then some (.quiet 21) else none) (n := 1) (S := stOf [(218, pureS r3lessS), (162, pureS r3plusS), (216, pureS r5mulS), (235, pureS r5twoS)]) drawS Tryz.T_ok (stOf_ok (by simp [r3less_ok, r3plus_ok, r5mul_ok, r5two_ok])) Tryz.func182 rfl (by kernel_rfl) (by kernel_rfl) ?_
    (by intro args v h; unfold r5XS at h; split at h <;> (try split at h) <;> simp at h)
  intro args v h
  unfold r5XS at h
  split at h
  · rename_i a b c d e f g k
    split at h
    · rename_i hc
      obtain ⟨ha, hb, hc, hd, he, hf, hg, hk⟩ := hc
      cases h
      refine ⟨by simp, by simp, by simp, ?_⟩
      have i0 : InW (a * f) := ((Bd.of ha).mul (Bd.of hf)).w (by decide)
      have i1 : InW (b * e) := ((Bd.of hb).mul (Bd.of he)).w (by decide)
      have i2 : InW (c * k) := ((Bd.of hc).mul (Bd.of hk)).w (by decide)
      have i3 : InW (d * g) := ((Bd.of hd).mul (Bd.of hg)).w (by decide)
      have i4 : InW (a * f + b * e) := (((Bd.of ha).mul (Bd.of hf)).add ((Bd.of hb).mul (Bd.of he))).w (by decide)
      have i5 : InW (a * f + b * e + c * k) := ((((Bd.of ha).mul (Bd.of hf)).add ((Bd.of hb).mul (Bd.of he))).add (((Bd.of hc).mul (Bd.of hk)).mono (by decide : 126 ≤ 127))).w (by decide)
      have i6 : InW (a * f + b * e + c * k - d * g) := (((((Bd.of ha).mul (Bd.of hf)).add ((Bd.of hb).mul (Bd.of he))).add (((Bd.of hc).mul (Bd.of hk)).mono (by decide : 126 ≤ 127))).sub (((Bd.of hd).mul (Bd.of hg)).mono (by decide : 126 ≤ 128))).w (by decide)
      have eq1 : a * f + b * e + c * k - d * g = qX a b c d e f g k := by unfold qX; grind
      simp [Tryz.f182, ha, hb, hc, hd, he, hf, hg, hk, sval_limb i2, sval_limb i3, sval_limb i4, i5, sval_limb i5, i6, R8_limb]
      rw [eq1]
      exact Eqv.refl _
    · simp at h
  · simp at h

noncomputable def r5YS : List AV → PR
  | [.agg [.int .i64 a, .int .i64 b, .int .i64 c, .int .i64 d], .agg [.int .i64 e, .int .i64 f, .int .i64 g, .int .i64 k]] => open Classical in if InI a ∧ InI b ∧ InI c ∧ InI d ∧ InI e ∧ InI f ∧ InI g ∧ InI k then .val (W (qY a b c d e f g k)) else .fail
  | _ => .fail
@[simp] theorem r5YS_val {a b c d e f g k : Int} (h : InI a ∧ InI b ∧ InI c ∧ InI d ∧ InI e ∧ InI f ∧ InI g ∧ InI k) : r5YS [.agg [.int .i64 a, .int .i64 b, .int .i64 c, .int .i64 d], .agg [.int .i64 e, .int .i64 f, .int .i64 g, .int .i64 k]] = .val (W (qY a b c d e f g k)) := if_pos h
set_option maxHeartbeats 4000000 in
theorem r5Y_ok : SumOk Tryz.prog 183 (pureS r5YS) := by
  refine sum_fn (L := fun i => if i = 1 then some (.quiet 21) else none) (n := 1) (S := stOf [(218, pureS r3lessS), (162, pureS r3plusS), (216, pureS r5mulS), (235, pureS r5twoS)]) drawS Tryz.T_ok (stOf_ok (by simp [r3less_ok, r3plus_ok, r5mul_ok, r5two_ok])) Tryz.func183 rfl (by kernel_rfl) (by kernel_rfl) ?_
    (by intro args v h; unfold r5YS at h; split at h <;> (try split at h) <;> simp at h)
  intro args v h
  unfold r5YS at h
  split at h
  · rename_i a b c d e f g k
    split at h
    · rename_i hc
      obtain ⟨ha, hb, hc, hd, he, hf, hg, hk⟩ := hc
      cases h
      refine ⟨by simp, by simp, by simp, ?_⟩
      have i0 : InW (a * g) := ((Bd.of ha).mul (Bd.of hg)).w (by decide)
      have i1 : InW (c * e) := ((Bd.of hc).mul (Bd.of he)).w (by decide)
      have i2 : InW (d * f) := ((Bd.of hd).mul (Bd.of hf)).w (by decide)
      have i3 : InW (b * k) := ((Bd.of hb).mul (Bd.of hk)).w (by decide)
      have i4 : InW (a * g + c * e) := (((Bd.of ha).mul (Bd.of hg)).add ((Bd.of hc).mul (Bd.of he))).w (by decide)
      have i5 : InW (a * g + c * e + d * f) := ((((Bd.of ha).mul (Bd.of hg)).add ((Bd.of hc).mul (Bd.of he))).add (((Bd.of hd).mul (Bd.of hf)).mono (by decide : 126 ≤ 127))).w (by decide)
      have i6 : InW (a * g + c * e + d * f - b * k) := (((((Bd.of ha).mul (Bd.of hg)).add ((Bd.of hc).mul (Bd.of he))).add (((Bd.of hd).mul (Bd.of hf)).mono (by decide : 126 ≤ 127))).sub (((Bd.of hb).mul (Bd.of hk)).mono (by decide : 126 ≤ 128))).w (by decide)
      have eq1 : a * g + c * e + d * f - b * k = qY a b c d e f g k := by unfold qY; grind
      simp [Tryz.f183, ha, hb, hc, hd, he, hf, hg, hk, sval_limb i2, sval_limb i3, sval_limb i4, i5, sval_limb i5, i6, R8_limb]
      rw [eq1]
      exact Eqv.refl _
    · simp at h
  · simp at h

noncomputable def r5ZS : List AV → PR
  | [.agg [.int .i64 a, .int .i64 b, .int .i64 c, .int .i64 d], .agg [.int .i64 e, .int .i64 f, .int .i64 g, .int .i64 k]] => open Classical in if InI a ∧ InI b ∧ InI c ∧ InI d ∧ InI e ∧ InI f ∧ InI g ∧ InI k then .val (W (qZ a b c d e f g k)) else .fail
  | _ => .fail
@[simp] theorem r5ZS_val {a b c d e f g k : Int} (h : InI a ∧ InI b ∧ InI c ∧ InI d ∧ InI e ∧ InI f ∧ InI g ∧ InI k) : r5ZS [.agg [.int .i64 a, .int .i64 b, .int .i64 c, .int .i64 d], .agg [.int .i64 e, .int .i64 f, .int .i64 g, .int .i64 k]] = .val (W (qZ a b c d e f g k)) := if_pos h
set_option maxHeartbeats 4000000 in
theorem r5Z_ok : SumOk Tryz.prog 184 (pureS r5ZS) := by
  refine sum_fn (L := fun i => if i = 1 then some (.quiet 21) else none) (n := 1) (S := stOf [(218, pureS r3lessS), (162, pureS r3plusS), (216, pureS r5mulS), (235, pureS r5twoS)]) drawS Tryz.T_ok (stOf_ok (by simp [r3less_ok, r3plus_ok, r5mul_ok, r5two_ok])) Tryz.func184 rfl (by kernel_rfl) (by kernel_rfl) ?_
    (by intro args v h; unfold r5ZS at h; split at h <;> (try split at h) <;> simp at h)
  intro args v h
  unfold r5ZS at h
  split at h
  · rename_i a b c d e f g k
    split at h
    · rename_i hc
      obtain ⟨ha, hb, hc, hd, he, hf, hg, hk⟩ := hc
      cases h
      refine ⟨by simp, by simp, by simp, ?_⟩
      have i0 : InW (a * k) := ((Bd.of ha).mul (Bd.of hk)).w (by decide)
      have i1 : InW (d * e) := ((Bd.of hd).mul (Bd.of he)).w (by decide)
      have i2 : InW (b * g) := ((Bd.of hb).mul (Bd.of hg)).w (by decide)
      have i3 : InW (c * f) := ((Bd.of hc).mul (Bd.of hf)).w (by decide)
      have i4 : InW (a * k + d * e) := (((Bd.of ha).mul (Bd.of hk)).add ((Bd.of hd).mul (Bd.of he))).w (by decide)
      have i5 : InW (a * k + d * e + b * g) := ((((Bd.of ha).mul (Bd.of hk)).add ((Bd.of hd).mul (Bd.of he))).add (((Bd.of hb).mul (Bd.of hg)).mono (by decide : 126 ≤ 127))).w (by decide)
      have i6 : InW (a * k + d * e + b * g - c * f) := (((((Bd.of ha).mul (Bd.of hk)).add ((Bd.of hd).mul (Bd.of he))).add (((Bd.of hb).mul (Bd.of hg)).mono (by decide : 126 ≤ 127))).sub (((Bd.of hc).mul (Bd.of hf)).mono (by decide : 126 ≤ 128))).w (by decide)
      have eq1 : a * k + d * e + b * g - c * f = qZ a b c d e f g k := by unfold qZ; grind
      simp [Tryz.f184, ha, hb, hc, hd, he, hf, hg, hk, sval_limb i2, sval_limb i3, sval_limb i4, i5, sval_limb i5, i6, R8_limb]
      rw [eq1]
      exact Eqv.refl _
    · simp at h
  · simp at h

end Go.X
