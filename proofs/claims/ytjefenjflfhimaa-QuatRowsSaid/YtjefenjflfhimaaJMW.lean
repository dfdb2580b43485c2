/- Quaternions: units, and a unit by its way back. -/
import Derived.Test.YtjefenjflfhimaaJML
namespace Go.X
open Go.Proofs
attribute [local irreducible] Good
attribute [simp] Try.T_60

theorem Bd_200 {z : Int} (h : 0 ≤ z) (h2 : z ≤ 36893488147419103232) : Bd 66 z := by unfold Bd; omega
theorem cmpI_le {a b : Int} : cmpI a b ≤ 0 ↔ a ≤ b := by
  have := cmpI_pos (a := a) (b := b)
  omega
/-- how near to 1 -/
def NearOne (z w : Int) : Prop := z - 18446744073709551616 ≤ w ∧ 18446744073709551616 - z ≤ w
instance (z w : Int) : Decidable (NearOne z w) := inferInstanceAs (Decidable (_ ∧ _))
theorem small_InI {u : Int} (h : -4294967296 ≤ u ∧ u ≤ 4294967296) : InI u := by unfold InI; omega

noncomputable def sq4sS : Sum := fun args env _ => match args with
  | [.slice b 0 4 _] => match env b with
    | some ⟨[.arr .i64 4 t], _⟩ => open Classical in if InI (t 0) ∧ InI (t 1) ∧ InI (t 2) ∧ InI (t 3) then .val (W (t 0 * t 0 + t 1 * t 1 + t 2 * t 2 + t 3 * t 3)) [] [] else .fail
    | _ => .fail
  | _ => .fail
set_option maxHeartbeats 4000000 in
theorem sq4s_ok : SumOk Try.prog 50 sq4sS := by
  refine sum_read (L := fun i => if i = 5 then some (.held 15 [13]) else none) (n := 5) (S := stOf [(108, pureS addS), (106, pureS mulS), (107, pureS ofS)]) drawS Try.T_ok (stOf_ok (by simp [add_ok, mul_ok, of_ok])) Try.func50 rfl (by kernel_rfl) (by kernel_rfl) ?_
  intro args env nxt h
  unfold sq4sS at h ⊢
  split at h
  · rename_i b c
    split at h
    · rename_i t ty0 m0
      split at h
      · rename_i hc
        obtain ⟨e0, e1, e2, e3⟩ := id hc
        refine ⟨_, _, _, W (t 0 * t 0 + t 1 * t 1 + t 2 * t 2 + t 3 * t 3), laid1 [.slice 0 0 4 c] rfl (by simp) m0 rfl, by first | exact if_pos hc | (simp only [m0]; exact if_pos hc), by simp, by simp, ?_⟩
        have b0 : Bd 126 (t 0 * t 0) := (Bd.of e0).mul (Bd.of e0)
        have i0 := b0.w (by decide)
        have b1 : Bd 126 (t 1 * t 1) := (Bd.of e1).mul (Bd.of e1)
        have i1 := b1.w (by decide)
        have b2 : Bd 126 (t 2 * t 2) := (Bd.of e2).mul (Bd.of e2)
        have i2 := b2.w (by decide)
        have b3 : Bd 126 (t 3 * t 3) := (Bd.of e3).mul (Bd.of e3)
        have i3 := b3.w (by decide)
        have d1 := b0.add b1
        have d2 := d1.add (b2.mono (by decide : 126 ≤ 127))
        have d3 := d2.add (b3.mono (by decide : 126 ≤ 128))
        have k1 := d1.w (by decide)
        have k2 := d2.w (by decide)
        have k3 := d3.w (by decide)
        simp (maxSteps := 10000000) [Try.f50, R8_limb, fitV, R8_zero, sval_zero, fitI e0, fitI e1, fitI e2, fitI e3, ofS_in e0, ofS_in e1, ofS_in e2, ofS_in e3, i0, sval_limb i0, i1, sval_limb i1, i2, sval_limb i2, i3, sval_limb i3, k1, sval_limb k1, k2, sval_limb k2, k3]
      · simp at h
    · simp at h
  · simp at h

noncomputable def sq3sS : Sum := fun args env _ => match args with
  | [.slice b 0 3 _] => match env b with
    | some ⟨[.arr .i64 3 t], _⟩ => open Classical in if InI (t 0) ∧ InI (t 1) ∧ InI (t 2) then .val (W (t 0 * t 0 + t 1 * t 1 + t 2 * t 2)) [] [] else .fail
    | _ => .fail
  | _ => .fail
set_option maxHeartbeats 4000000 in
theorem sq3s_ok : SumOk Try.prog 50 sq3sS := by
  refine sum_read (L := fun i => if i = 5 then some (.held 15 [13]) else none) (n := 4) (S := stOf [(108, pureS addS), (106, pureS mulS), (107, pureS ofS)]) drawS Try.T_ok (stOf_ok (by simp [add_ok, mul_ok, of_ok])) Try.func50 rfl (by kernel_rfl) (by kernel_rfl) ?_
  intro args env nxt h
  unfold sq3sS at h ⊢
  split at h
  · rename_i b c
    split at h
    · rename_i t ty0 m0
      split at h
      · rename_i hc
        obtain ⟨e0, e1, e2⟩ := id hc
        refine ⟨_, _, _, W (t 0 * t 0 + t 1 * t 1 + t 2 * t 2), laid1 [.slice 0 0 3 c] rfl (by simp) m0 rfl, by first | exact if_pos hc | (simp only [m0]; exact if_pos hc), by simp, by simp, ?_⟩
        have b0 : Bd 126 (t 0 * t 0) := (Bd.of e0).mul (Bd.of e0)
        have i0 := b0.w (by decide)
        have b1 : Bd 126 (t 1 * t 1) := (Bd.of e1).mul (Bd.of e1)
        have i1 := b1.w (by decide)
        have b2 : Bd 126 (t 2 * t 2) := (Bd.of e2).mul (Bd.of e2)
        have i2 := b2.w (by decide)
        have d1 := b0.add b1
        have d2 := d1.add (b2.mono (by decide : 126 ≤ 127))
        have k1 := d1.w (by decide)
        have k2 := d2.w (by decide)
        simp (maxSteps := 10000000) [Try.f50, R8_limb, fitV, R8_zero, sval_zero, fitI e0, fitI e1, fitI e2, ofS_in e0, ofS_in e1, ofS_in e2, i0, sval_limb i0, i1, sval_limb i1, i2, sval_limb i2, k1, sval_limb k1, k2]
      · simp at h
    · simp at h
  · simp at h

noncomputable def near29S : List AV → PR
  | [.arr .u64 8 f, .int .i64 29] => open Classical in if R8 f ∧ Bd 130 (sval f) then .val (.bool (decide (NearOne (sval f) 34359738368))) else .fail
  | _ => .fail
@[simp] theorem near29S_val {f : Nat → Int} (h : R8 f ∧ Bd 130 (sval f)) : near29S [.arr .u64 8 f, .int .i64 29] = .val (.bool (decide (NearOne (sval f) 34359738368))) := if_pos h
set_option maxHeartbeats 4000000 in
theorem near29_ok : SumOk Try.prog 52 (pureS near29S) := by
  refine sum_fn (L := fun _ => none) (n := 1) (S := stOf [(109, pureS cmpS), (111, pureS negateS), (107, pureS ofS), (77, pureS shlS), (110, pureS subS)]) drawS Try.T_ok (stOf_ok (by simp [cmp_ok, negate_ok, of_ok, shl_ok, sub_ok])) Try.func52 rfl (by kernel_rfl) (by kernel_rfl) ?_
    (by intro args v h; unfold near29S at h; split at h <;> (try split at h) <;> simp at h)
  intro args v h
  unfold near29S at h
  split at h
  · rename_i f
    split at h
    · rename_i hc
      obtain ⟨hf, e0⟩ := hc
      cases h
      refine ⟨by simp, by simp, by simp, ?_⟩
      have w1 : InW 34359738368 := InI.w (by decide)
      have w2 : InW 18446744073709551616 := (show Bd 65 18446744073709551616 by unfold Bd; decide).w (by decide)
      have b1 := e0.sub (show Bd 130 18446744073709551616 by unfold Bd; decide)
      have w3 := b1.w (by decide)
      have b2 := b1.neg
      have w4 := b2.w (by decide)
      have s4 : -(sval f - 18446744073709551616) = 18446744073709551616 - sval f := by omega
      rw [s4] at w4
      by_cases c1 : sval f - 18446744073709551616 ≤ 34359738368
      · have k1 := cmpI_le.2 c1
        by_cases c2 : 18446744073709551616 - sval f ≤ 34359738368
        · have k2 := cmpI_le.2 c2
          simp [hf, R8_limb, shlV, fitV, ofS_in InI_1, fitI InI_1, w1, sval_limb w1, w2, sval_limb w2, w3, sval_limb w3, s4, w4, sval_limb w4, Try.f52, NearOne, k1, k2, c1, c2]
        · have k2 : ¬ cmpI (18446744073709551616 - sval f) 34359738368 ≤ 0 := fun e => c2 (cmpI_le.1 e)
          simp [hf, R8_limb, shlV, fitV, ofS_in InI_1, fitI InI_1, w1, sval_limb w1, w2, sval_limb w2, w3, sval_limb w3, s4, w4, sval_limb w4, Try.f52, NearOne, k1, k2, c1, c2]
      · have k1 : ¬ cmpI (sval f - 18446744073709551616) 34359738368 ≤ 0 := fun e => c1 (cmpI_le.1 e)
        simp [hf, R8_limb, shlV, fitV, ofS_in InI_1, fitI InI_1, w1, sval_limb w1, w2, sval_limb w2, w3, sval_limb w3, s4, w4, Try.f52, NearOne, k1, c1]
    · simp at h
  · simp at h

noncomputable def near30S : List AV → PR
  | [.arr .u64 8 f, .int .i64 30] => open Classical in if R8 f ∧ Bd 130 (sval f) then .val (.bool (decide (NearOne (sval f) 17179869184))) else .fail
  | _ => .fail
@[simp] theorem near30S_val {f : Nat → Int} (h : R8 f ∧ Bd 130 (sval f)) : near30S [.arr .u64 8 f, .int .i64 30] = .val (.bool (decide (NearOne (sval f) 17179869184))) := if_pos h
set_option maxHeartbeats 4000000 in
theorem near30_ok : SumOk Try.prog 52 (pureS near30S) := by
  refine sum_fn (L := fun _ => none) (n := 1) (S := stOf [(109, pureS cmpS), (111, pureS negateS), (107, pureS ofS), (77, pureS shlS), (110, pureS subS)]) drawS Try.T_ok (stOf_ok (by simp [cmp_ok, negate_ok, of_ok, shl_ok, sub_ok])) Try.func52 rfl (by kernel_rfl) (by kernel_rfl) ?_
    (by intro args v h; unfold near30S at h; split at h <;> (try split at h) <;> simp at h)
  intro args v h
  unfold near30S at h
  split at h
  · rename_i f
    split at h
    · rename_i hc
      obtain ⟨hf, e0⟩ := hc
      cases h
      refine ⟨by simp, by simp, by simp, ?_⟩
      have w1 : InW 17179869184 := InI.w (by decide)
      have w2 : InW 18446744073709551616 := (show Bd 65 18446744073709551616 by unfold Bd; decide).w (by decide)
      have b1 := e0.sub (show Bd 130 18446744073709551616 by unfold Bd; decide)
      have w3 := b1.w (by decide)
      have b2 := b1.neg
      have w4 := b2.w (by decide)
      have s4 : -(sval f - 18446744073709551616) = 18446744073709551616 - sval f := by omega
      rw [s4] at w4
      by_cases c1 : sval f - 18446744073709551616 ≤ 17179869184
      · have k1 := cmpI_le.2 c1
        by_cases c2 : 18446744073709551616 - sval f ≤ 17179869184
        · have k2 := cmpI_le.2 c2
          simp [hf, R8_limb, shlV, fitV, ofS_in InI_1, fitI InI_1, w1, sval_limb w1, w2, sval_limb w2, w3, sval_limb w3, s4, w4, sval_limb w4, Try.f52, NearOne, k1, k2, c1, c2]
        · have k2 : ¬ cmpI (18446744073709551616 - sval f) 17179869184 ≤ 0 := fun e => c2 (cmpI_le.1 e)
          simp [hf, R8_limb, shlV, fitV, ofS_in InI_1, fitI InI_1, w1, sval_limb w1, w2, sval_limb w2, w3, sval_limb w3, s4, w4, sval_limb w4, Try.f52, NearOne, k1, k2, c1, c2]
      · have k1 : ¬ cmpI (sval f - 18446744073709551616) 17179869184 ≤ 0 := fun e => c1 (cmpI_le.1 e)
        simp [hf, R8_limb, shlV, fitV, ofS_in InI_1, fitI InI_1, w1, sval_limb w1, w2, sval_limb w2, w3, sval_limb w3, s4, w4, Try.f52, NearOne, k1, c1]
    · simp at h
  · simp at h

noncomputable def near5S : List AV → PR
  | [.int .i64 a, .int .i64 b] => open Classical in if -2305843009213693952 ≤ a ∧ a ≤ 2305843009213693952 ∧ -2305843009213693952 ≤ b ∧ b ≤ 2305843009213693952 then .val (.bool (decide (a - b ≤ 64 ∧ b - a ≤ 64))) else .fail
  | _ => .fail
@[simp] theorem near5S_val {a b : Int} (h : -2305843009213693952 ≤ a ∧ a ≤ 2305843009213693952 ∧ -2305843009213693952 ≤ b ∧ b ≤ 2305843009213693952) : near5S [.int .i64 a, .int .i64 b] = .val (.bool (decide (a - b ≤ 64 ∧ b - a ≤ 64))) := if_pos h
theorem near5_ok : SumOk Try.prog 62 (pureS near5S) := by
  refine sum_fn (L := fun _ => none) (n := 1) (S := stOf []) drawS Try.T_ok (stOf_ok (by simp)) Try.func62 rfl (by kernel_rfl) (by kernel_rfl) ?_
    (by intro args v h; unfold near5S at h; split at h <;> (try split at h) <;> simp at h)
  intro args v h
  unfold near5S at h
  split at h
  · rename_i a b
    split at h
    · rename_i hc
      obtain ⟨e0, e1, e2, e3⟩ := hc
      cases h
      refine ⟨by simp, by simp, by simp, ?_⟩
      have w1 : IntKind.i64.wrap (a - b) = a - b := wrap_i64_in (by omega) (by omega)
      have w2 : IntKind.i64.wrap (b - a) = b - a := wrap_i64_in (by omega) (by omega)
      by_cases c1 : a - b ≤ 64
      · by_cases c2 : b - a ≤ 64
        · simp [Try.f62, w1, w2, c1, c2]
        · simp [Try.f62, w1, w2, c1, c2]
      · simp [Try.f62, w1, c1]
    · simp at h
  · simp at h

noncomputable def lawUnitaryS : List AV → PR
  | [.agg [.int .i64 a, .int .i64 b, .int .i64 c, .int .i64 d]] => open Classical in if InI a ∧ InI b ∧ InI c ∧ InI d then .val (.bool true) else .fail
  | _ => .fail
@[simp] theorem lawUnitaryS_val {a b c d : Int} (h : InI a ∧ InI b ∧ InI c ∧ InI d) : lawUnitaryS [.agg [.int .i64 a, .int .i64 b, .int .i64 c, .int .i64 d]] = .val (.bool true) := if_pos h
set_option maxHeartbeats 40000000 in
set_option maxRecDepth 100000 in
theorem lawUnitary_ok : SumOk Try.prog 13 (pureS lawUnitaryS) := by
  refine sum_fn (L := fun _ => none) (n := 1) (S := stOf [(45, pureS awake5S), (52, pureS near29S), (50, sq4sS), (51, pureS qcheckS), (49, pureS qMulS), (48, pureS qOneS), (43, pureS qUnitS)]) drawS Try.T_ok (stOf_ok (by simp [awake5_ok, near29_ok, sq4s_ok, qcheck_ok, qMul_ok, qOne_ok, qUnit_ok])) Try.func13 rfl (by kernel_rfl) (by kernel_rfl) ?_
    (by intro args v h; unfold lawUnitaryS at h; split at h <;> (try split at h) <;> simp at h)
  intro args v h
  unfold lawUnitaryS at h
  split at h
  · rename_i a b c d
    split at h
    · rename_i hc
      obtain ⟨ha, hb, hc, hd⟩ := hc
      cases h
      refine ⟨by simp, by simp, by simp, ?_⟩
      have a0 : qW 4294967296 0 0 0 a b c d = a * 4294967296 := by unfold qW; grind
      have b0 : qW a b c d 4294967296 0 0 0 = a * 4294967296 := by unfold qW; grind
      have a1 : qX 4294967296 0 0 0 a b c d = b * 4294967296 := by unfold qX; grind
      have b1 : qX a b c d 4294967296 0 0 0 = b * 4294967296 := by unfold qX; grind
      have a2 : qY 4294967296 0 0 0 a b c d = c * 4294967296 := by unfold qY; grind
      have b2 : qY a b c d 4294967296 0 0 0 = c * 4294967296 := by unfold qY; grind
      have a3 : qZ 4294967296 0 0 0 a b c d = d * 4294967296 := by unfold qZ; grind
      have b3 : qZ a b c d 4294967296 0 0 0 = d * 4294967296 := by unfold qZ; grind
      by_cases tt : TurnP a b c d
      · have sp := Turn_pos tt
        obtain ⟨u, v, w, z, g1, g2, g3, g4, r1, r2, r3, r4, s1, s2, s3, s4, t1, t2⟩ := unit_near sp
        have j1 := small_InI r1
        have j2 := small_InI r2
        have j3 := small_InI r3
        have j4 := small_InI r4
        have l1 := clampI_self j1
        have l2 := clampI_self j2
        have l3 := clampI_self j3
        have l4 := clampI_self j4
        have n1 : NearOne (u * u + v * v + w * w + z * z) 34359738368 := by unfold sq4 at t1 t2; unfold NearOne; omega
        have n2 : TurnP u v w z := by unfold TurnP; omega
        have n3 := (Bd_sq4 (Bd.of j1) (Bd.of j2) (Bd.of j3) (Bd.of j4)).mono (show 129 ≤ 130 by decide)
        unfold sq4 at n3
        have n4 := sval_limb (n3.w (by decide))
        simp (maxSteps := 10000000) [ha, hb, hc, hd, R8_limb, a0, a1, a2, a3, b0, b1, b2, b3, InI_one, InI_zero, sq4sS, clampI_self ha, clampI_self hb, clampI_self hc, clampI_self hd, Try.f13, tt, g1, g2, g3, g4, j1, j2, j3, j4, l1, l2, l3, l4, n1, n2, n3, n4, s1, s2, s3, s4]
      · simp (maxSteps := 10000000) [ha, hb, hc, hd, a0, a1, a2, a3, b0, b1, b2, b3, InI_one, InI_zero, clampI_self ha, clampI_self hb, clampI_self hc, clampI_self hd, Try.f13, tt]
    · simp at h
  · simp at h

noncomputable def lawUndone5S : List AV → PR
  | [.agg [.int .i64 a, .int .i64 b, .int .i64 c, .int .i64 d]] => open Classical in if InI a ∧ InI b ∧ InI c ∧ InI d then .val (.bool true) else .fail
  | _ => .fail
@[simp] theorem lawUndone5S_val {a b c d : Int} (h : InI a ∧ InI b ∧ InI c ∧ InI d) : lawUndone5S [.agg [.int .i64 a, .int .i64 b, .int .i64 c, .int .i64 d]] = .val (.bool true) := if_pos h
set_option maxHeartbeats 40000000 in
set_option maxRecDepth 100000 in
theorem lawUndone5_ok : SumOk Try.prog 20 (pureS lawUndone5S) := by
  refine sum_fn (L := fun i => if i = 4 then some (.quiet 10) else none) (n := 1) (S := stOf [(45, pureS awake5S), (62, pureS near5S), (59, pureS qBackS), (49, pureS qMulS), (43, pureS qUnitS)]) drawS Try.T_ok (stOf_ok (by simp [awake5_ok, near5_ok, qBack_ok, qMul_ok, qUnit_ok])) Try.func20 rfl (by kernel_rfl) (by kernel_rfl) ?_
    (by intro args v h; unfold lawUndone5S at h; split at h <;> (try split at h) <;> simp at h)
  intro args v h
  unfold lawUndone5S at h
  split at h
  · rename_i a b c d
    split at h
    · rename_i hc
      obtain ⟨ha, hb, hc, hd⟩ := hc
      cases h
      refine ⟨by simp, by simp, by simp, ?_⟩
      by_cases tt : TurnP a b c d
      · have sp := Turn_pos tt
        obtain ⟨u, v, w, z, g1, g2, g3, g4, r1, r2, r3, r4, s1, s2, s3, s4, t1, t2⟩ := unit_near sp
        have j1 := small_InI r1
        have j2 := small_InI r2
        have j3 := small_InI r3
        have j4 := small_InI r4
        have l1 := clampI_self j1
        have l2 := clampI_self j2
        have l3 := clampI_self j3
        have l4 := clampI_self j4
        have m2 : InI (-v) := small_InI (by omega)
        have m3 : InI (-w) := small_InI (by omega)
        have m4 : InI (-z) := small_InI (by omega)
        have k2 := clampI_self m2
        have k3 := clampI_self m3
        have k4 := clampI_self m4
        have p0 : qW u v w z u (-v) (-w) (-z) = sq4 u v w z := by unfold qW sq4; grind
        have p1 : qX u v w z u (-v) (-w) (-z) = 0 := by unfold qX; grind
        have p2 : qY u v w z u (-v) (-w) (-z) = 0 := by unfold qY; grind
        have p3 : qZ u v w z u (-v) (-w) (-z) = 0 := by unfold qZ; grind
        have q0 : qW u (-v) (-w) (-z) u v w z = sq4 u v w z := by unfold qW sq4; grind
        have q1 : qX u (-v) (-w) (-z) u v w z = 0 := by unfold qX; grind
        have q2 : qY u (-v) (-w) (-z) u v w z = 0 := by unfold qY; grind
        have q3 : qZ u (-v) (-w) (-z) u v w z = 0 := by unfold qZ; grind
        obtain ⟨y, hy⟩ : ∃ y, sq4 u v w z / 4294967296 = y := ⟨_, rfl⟩
        have y1 : 4294967288 ≤ y := by omega
        have y2 : y ≤ 4294967304 := by omega
        have y3 : clampI y = y := clampI_self (by unfold InI; omega)
        have y4 : -2305843009213693952 ≤ y := by omega
        have y5 : y ≤ 2305843009213693952 := by omega
        have y6 : y - 4294967296 ≤ 64 := by omega
        have y7 : 4294967296 - y ≤ 64 := by omega
        simp (maxSteps := 10000000) [ha, hb, hc, hd, Try.f20, tt, g1, g2, g3, g4, j1, j2, j3, j4, l1, l2, l3, l4, m2, m3, m4, k2, k3, k4, p0, p1, p2, p3, q0, q1, q2, q3, hy, y3, y4, y5, y6, y7]
      · simp (maxSteps := 10000000) [ha, hb, hc, hd, Try.f20, tt]
    · simp at h
  · simp at h

end Go.X
