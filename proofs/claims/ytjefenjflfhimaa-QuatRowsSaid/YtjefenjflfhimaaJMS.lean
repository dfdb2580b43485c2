/- Quaternions: products and the rotation back, in package quat and in the reference 05. -/
import Derived.Test.YtjefenjflfhimaaJMR
namespace Go.X
open Go.Proofs
attribute [local irreducible] Good

theorem InW_62 : InW 4611686018427387904 := InI.w (by decide)
theorem InW_66 : InW 73786976294838206464 := (show Bd 67 73786976294838206464 by unfold Bd; decide).w (by decide)
theorem InI_1 : InI 1 := by decide

noncomputable def qcheckS : List AV → PR
  | [.agg [.int .i64 a, .int .i64 b, .int .i64 c, .int .i64 d]] => open Classical in if InI a ∧ InI b ∧ InI c ∧ InI d then .val (.int .i64 (if TurnP a b c d then 0 else 9)) else .fail
  | _ => .fail
@[simp] theorem qcheckS_val {a b c d : Int} (h : InI a ∧ InI b ∧ InI c ∧ InI d) : qcheckS [.agg [.int .i64 a, .int .i64 b, .int .i64 c, .int .i64 d]] = .val (.int .i64 (if TurnP a b c d then 0 else 9)) := if_pos h
set_option maxHeartbeats 4000000 in
theorem qcheck_ok : SumOk Try.prog 51 (pureS qcheckS) := by
  refine sum_fn (L := fun _ => none) (n := 1) (S := stOf [(89, pureS qrawS), (90, pureS qsquareS), (109, pureS cmpS), (107, pureS ofS), (77, pureS shlS)]) drawS Try.T_ok (stOf_ok (by simp [qraw_ok, qsquare_ok, cmp_ok, of_ok, shl_ok])) Try.func51 rfl (by kernel_rfl) (by kernel_rfl) ?_
    (by intro args v h; unfold qcheckS at h; split at h <;> (try split at h) <;> simp at h)
  intro args v h
  unfold qcheckS at h
  split at h
  · rename_i a b c d
    split at h
    · rename_i hc
      obtain ⟨ha, hb, hc, hd⟩ := hc
      cases h
      refine ⟨by simp, by simp, by simp, ?_⟩
      have sb := Bd_sq4 (Bd.of ha) (Bd.of hb) (Bd.of hc) (Bd.of hd)
      have si := sb.w (by decide)
      by_cases ll : sq4 a b c d < 4611686018427387904
      · have t : ¬ TurnP a b c d := fun e => by unfold TurnP at e; omega
        have k := cmpI_neg.2 ll
        simp [ha, hb, hc, hd, fitI ha, fitI hb, fitI hc, fitI hd, R8_limb, Bd.of ha, Bd.of hb, Bd.of hc, Bd.of hd, shlV, fitV, InW_62, InW_66, sval_limb InW_62, ofS_in InI_1, fitI InI_1, Try.f51, sval_limb si, t, k]
      · have k : ¬ cmpI (sq4 a b c d) 4611686018427387904 < 0 := fun e => ll (cmpI_neg.1 e)
        by_cases hh : 73786976294838206464 < sq4 a b c d
        · have t : ¬ TurnP a b c d := fun e => by unfold TurnP at e; omega
          have k2 := cmpI_pos.2 hh
          simp [ha, hb, hc, hd, fitI ha, fitI hb, fitI hc, fitI hd, R8_limb, Bd.of ha, Bd.of hb, Bd.of hc, Bd.of hd, shlV, fitV, InW_62, InW_66, sval_limb InW_62, sval_limb InW_66, ofS_in InI_1, fitI InI_1, Try.f51, sval_limb si, t, k, k2]
        · have t : TurnP a b c d := by unfold TurnP; omega
          have k2 : ¬ 0 < cmpI (sq4 a b c d) 73786976294838206464 := fun e => hh (cmpI_pos.1 e)
          simp [ha, hb, hc, hd, fitI ha, fitI hb, fitI hc, fitI hd, R8_limb, Bd.of ha, Bd.of hb, Bd.of hc, Bd.of hd, shlV, fitV, InW_62, InW_66, sval_limb InW_62, sval_limb InW_66, ofS_in InI_1, fitI InI_1, Try.f51, sval_limb si, t, k, k2]
    · simp at h
  · simp at h

noncomputable def qmul1S : Sum := fun args env _ => match args with
  | [.int .i64 k, .ptr p 0] => match env p with
    | some ⟨[.arr .u64 8 n0, .arr .u64 8 n1, .arr .u64 8 n2, .arr .u64 8 n3], _⟩ => open Classical in if R8 n0 ∧ R8 n1 ∧ R8 n2 ∧ R8 n3 ∧ 0 ≤ k ∧ k < 4 then .val (.int .i64 (clampI (sval (pick4 n0 n1 n2 n3 k) / 4294967296))) [] [] else .fail
    | _ => .fail
  | _ => .fail
theorem qmul1_ok : SumOk Try.prog 105 qmul1S := by
  refine sum_read (L := fun _ => none) (n := 1) (S := stOf [(65, pureS finS)]) drawS Try.T_ok (stOf_ok (by simp [fin_ok])) Try.func105 rfl (by kernel_rfl) (by kernel_rfl) ?_
  intro args env nxt h
  unfold qmul1S at h ⊢
  split at h
  · rename_i k p
    split at h
    · rename_i n0 n1 n2 n3 ty0 m0
      split at h
      · rename_i hc
        obtain ⟨hn0, hn1, hn2, hn3, e0, e1⟩ := id hc
        refine ⟨_, _, _, .int .i64 (clampI (sval (pick4 n0 n1 n2 n3 k) / 4294967296)), laid1 [.int .i64 k, .ptr 0 0] rfl (by simp) m0 rfl, by first | exact if_pos hc | (simp only [m0]; exact if_pos hc), by simp, by simp, ?_⟩
        have rp := R8_pick4 hn0 hn1 hn2 hn3
        simp [Try.f105, e0, e1, rp, cut4 e0 e1]
      · simp at h
    · simp at h
  · simp at h

noncomputable def qofMulS : Sum := fun args env _ => match args with
  | [.fn 105 [.ptr p 0]] => match env p with
    | some ⟨[.arr .u64 8 n0, .arr .u64 8 n1, .arr .u64 8 n2, .arr .u64 8 n3], _⟩ => open Classical in if R8 n0 ∧ R8 n1 ∧ R8 n2 ∧ R8 n3 then .val (.agg [.int .i64 (clampI (sval n0 / 4294967296)), .int .i64 (clampI (sval n1 / 4294967296)), .int .i64 (clampI (sval n2 / 4294967296)), .int .i64 (clampI (sval n3 / 4294967296))]) [] [] else .fail
    | _ => .fail
  | _ => .fail
theorem qofMul_ok : SumOk Try.prog 91 qofMulS := by
  refine sum_read (L := fun _ => none) (n := 1) (S := stOf [(105, qmul1S)]) drawS Try.T_ok (stOf_ok (by simp [qmul1_ok])) Try.func91 rfl (by kernel_rfl) (by kernel_rfl) ?_
  intro args env nxt h
  unfold qofMulS at h ⊢
  split at h
  · rename_i p
    split at h
    · rename_i n0 n1 n2 n3 ty0 m0
      split at h
      · rename_i hc
        obtain ⟨hn0, hn1, hn2, hn3⟩ := id hc
        refine ⟨_, _, _, .agg [.int .i64 (clampI (sval n0 / 4294967296)), .int .i64 (clampI (sval n1 / 4294967296)), .int .i64 (clampI (sval n2 / 4294967296)), .int .i64 (clampI (sval n3 / 4294967296))], laid1 [.fn 105 [.ptr 0 0]] rfl (by simp) m0 rfl, by first | exact if_pos hc | (simp only [m0]; exact if_pos hc), by simp, by simp, ?_⟩
        simp [Try.f91, hn0, hn1, hn2, hn3, qmul1S, pick4]
      · simp at h
    · simp at h
  · simp at h

noncomputable def qMulS : List AV → PR
  | [.agg [.int .i64 a, .int .i64 b, .int .i64 c, .int .i64 d], .agg [.int .i64 e, .int .i64 f, .int .i64 g, .int .i64 k]] => open Classical in if InI a ∧ InI b ∧ InI c ∧ InI d ∧ InI e ∧ InI f ∧ InI g ∧ InI k then .val (.agg [.int .i64 (clampI (qW a b c d e f g k / 2 ^ 32)), .int .i64 (clampI (qX a b c d e f g k / 2 ^ 32)), .int .i64 (clampI (qY a b c d e f g k / 2 ^ 32)), .int .i64 (clampI (qZ a b c d e f g k / 2 ^ 32))]) else .fail
  | _ => .fail
@[simp] theorem qMulS_val {a b c d e f g k : Int} (h : InI a ∧ InI b ∧ InI c ∧ InI d ∧ InI e ∧ InI f ∧ InI g ∧ InI k) : qMulS [.agg [.int .i64 a, .int .i64 b, .int .i64 c, .int .i64 d], .agg [.int .i64 e, .int .i64 f, .int .i64 g, .int .i64 k]] = .val (.agg [.int .i64 (clampI (qW a b c d e f g k / 2 ^ 32)), .int .i64 (clampI (qX a b c d e f g k / 2 ^ 32)), .int .i64 (clampI (qY a b c d e f g k / 2 ^ 32)), .int .i64 (clampI (qZ a b c d e f g k / 2 ^ 32))]) := if_pos h
theorem qMul_ok : SumOk Try.prog 49 (pureS qMulS) := by
  refine sum_fn (L := fun i => if i = 1 then some (.quiet 6) else none) (n := 1) (S := stOf [(89, pureS qrawS), (104, pureS qprodS), (91, qofMulS)]) drawS Try.T_ok (stOf_ok (by simp [qraw_ok, qprod_ok, qofMul_ok])) Try.func49 rfl (by kernel_rfl) (by kernel_rfl) ?_
    (by intro args v h; unfold qMulS at h; split at h <;> (try split at h) <;> simp at h)
  intro args v h
  unfold qMulS at h
  split at h
  · rename_i a b c d e f g k
    split at h
    · rename_i hc
      obtain ⟨ha, hb, hc, hd, he, hf, hg, hk⟩ := hc
      cases h
      refine ⟨by simp, by simp, by simp, ?_⟩
      have q := Bd_q (Bd.of ha) (Bd.of hb) (Bd.of hc) (Bd.of hd) (Bd.of he) (Bd.of hf) (Bd.of hg) (Bd.of hk)
      obtain ⟨u0, u1, u2, u3⟩ := q
      have v0 := u0.w (by decide)
      have v1 := u1.w (by decide)
      have v2 := u2.w (by decide)
      have v3 := u3.w (by decide)
      simp [Try.f49, ha, hb, hc, hd, he, hf, hg, hk, fitI ha, fitI hb, fitI hc, fitI hd, fitI he, fitI hf, fitI hg, fitI hk, R8_limb, sval_limb v0, sval_limb v1, sval_limb v2, sval_limb v3, Bd.of ha, Bd.of hb, Bd.of hc, Bd.of hd, Bd.of he, Bd.of hf, Bd.of hg, Bd.of hk, qofMulS]
    · simp at h
  · simp at h

noncomputable def qOneS : List AV → PR
  | [] => .val (.agg [.int .i64 4294967296, .int .i64 0, .int .i64 0, .int .i64 0])
  | _ => .fail
@[simp] theorem qOneS_val : qOneS [] = .val (.agg [.int .i64 4294967296, .int .i64 0, .int .i64 0, .int .i64 0]) := rfl
theorem qOne_ok : SumOk Try.prog 48 (pureS qOneS) := by
  refine sum_fn (L := fun _ => none) (n := 1) (S := stOf []) drawS Try.T_ok (stOf_ok (by simp)) Try.func48 rfl (by kernel_rfl) (by kernel_rfl) ?_
    (by intro args v h; unfold qOneS at h; split at h <;> (try split at h) <;> simp at h)
  intro args v h
  unfold qOneS at h
  split at h
  · skip
    cases h
    refine ⟨by simp, by simp, by simp, ?_⟩
    simp [Try.f48]
  · simp at h

noncomputable def foppoS : List AV → PR
  | [.arr .u64 8 f] => open Classical in if R8 f ∧ InW (-sval f) then .val (W (-sval f)) else .fail
  | _ => .fail
@[simp] theorem foppoS_val {f : Nat → Int} (h : R8 f ∧ InW (-sval f)) : foppoS [.arr .u64 8 f] = .val (W (-sval f)) := if_pos h
theorem foppo_ok : SumOk Try.prog 167 (pureS foppoS) := by
  refine sum_fn (L := fun _ => none) (n := 1) (S := stOf [(111, pureS negateS)]) drawS Try.T_ok (stOf_ok (by simp [negate_ok])) Try.func167 rfl (by kernel_rfl) (by kernel_rfl) ?_
    (by intro args v h; unfold foppoS at h; split at h <;> (try split at h) <;> simp at h)
  intro args v h
  unfold foppoS at h
  split at h
  · rename_i f
    split at h
    · rename_i hc
      obtain ⟨hf, e0⟩ := hc
      cases h
      refine ⟨by simp, by simp, by simp, ?_⟩
      simp [Try.f167, hf, e0, fitV]
    · simp at h
  · simp at h

noncomputable def fSubS : List AV → PR
  | [.int .i64 a, .int .i64 b] => open Classical in if InI a ∧ InI b then .val (.int .i64 (clampI (a - b))) else .fail
  | _ => .fail
@[simp] theorem fSubS_val {a b : Int} (h : InI a ∧ InI b) : fSubS [.int .i64 a, .int .i64 b] = .val (.int .i64 (clampI (a - b))) := if_pos h
theorem fSub_ok : SumOk Try.prog 123 (pureS fSubS) := by
  refine sum_fn (L := fun _ => none) (n := 1) (S := stOf [(167, pureS foppoS), (161, pureS frawS), (166, pureS fsumS), (125, pureS fwithinS)]) drawS Try.T_ok (stOf_ok (by simp [foppo_ok, fraw_ok, fsum_ok, fwithin_ok])) Try.func123 rfl (by kernel_rfl) (by kernel_rfl) ?_
    (by intro args v h; unfold fSubS at h; split at h <;> (try split at h) <;> simp at h)
  intro args v h
  unfold fSubS at h
  split at h
  · rename_i a b
    split at h
    · rename_i hc
      obtain ⟨ha, hb⟩ := hc
      cases h
      refine ⟨by simp, by simp, by simp, ?_⟩
      have i0 : InW (-b) := (Bd.of hb).neg.w (by decide)
      have i1 : InW (a - b) := ((Bd.of ha).sub (Bd.of hb)).w (by decide)
      have e : a + -b = a - b := by omega
      simp [Try.f123, ha, hb, fitI ha, fitI hb, i0, sval_limb i0, i1, sval_limb i1, R8_limb, e]
    · simp at h
  · simp at h

noncomputable def qBackS : List AV → PR
  | [.agg [.int .i64 a, .int .i64 b, .int .i64 c, .int .i64 d]] => open Classical in if InI a ∧ InI b ∧ InI c ∧ InI d then .val (.agg [.int .i64 a, .int .i64 (clampI (-b)), .int .i64 (clampI (-c)), .int .i64 (clampI (-d))]) else .fail
  | _ => .fail
@[simp] theorem qBackS_val {a b c d : Int} (h : InI a ∧ InI b ∧ InI c ∧ InI d) : qBackS [.agg [.int .i64 a, .int .i64 b, .int .i64 c, .int .i64 d]] = .val (.agg [.int .i64 a, .int .i64 (clampI (-b)), .int .i64 (clampI (-c)), .int .i64 (clampI (-d))]) := if_pos h
theorem qBack_ok : SumOk Try.prog 59 (pureS qBackS) := by
  refine sum_fn (L := fun i => if i = 1 then some (.quiet 12) else none) (n := 1) (S := stOf [(123, pureS fSubS)]) drawS Try.T_ok (stOf_ok (by simp [fSub_ok])) Try.func59 rfl (by kernel_rfl) (by kernel_rfl) ?_
    (by intro args v h; unfold qBackS at h; split at h <;> (try split at h) <;> simp at h)
  intro args v h
  unfold qBackS at h
  split at h
  · rename_i a b c d
    split at h
    · rename_i hc
      obtain ⟨ha, hb, hc, hd⟩ := hc
      cases h
      refine ⟨by simp, by simp, by simp, ?_⟩
      simp [Try.f59, hb, hc, hd, InI_zero]
    · simp at h
  · simp at h

noncomputable def r2subS : List AV → PR
  | [.int .i64 a, .int .i64 b] => open Classical in if InI a ∧ InI b then .val (.int .i64 (clampI (a - b))) else .fail
  | _ => .fail
@[simp] theorem r2subS_val {a b : Int} (h : InI a ∧ InI b) : r2subS [.int .i64 a, .int .i64 b] = .val (.int .i64 (clampI (a - b))) := if_pos h
theorem r2sub_ok : SumOk Try.prog 124 (pureS r2subS) := by
  refine sum_fn (L := fun _ => none) (n := 1) (S := stOf [(155, pureS subS), (130, pureS rwithinS), (168, pureS r2rawS)]) drawS Try.T_ok (stOf_ok (by simp [rsub_ok, rwithin_ok, r2raw_ok])) Try.func124 rfl (by kernel_rfl) (by kernel_rfl) ?_
    (by intro args v h; unfold r2subS at h; split at h <;> (try split at h) <;> simp at h)
  intro args v h
  unfold r2subS at h
  split at h
  · rename_i a b
    split at h
    · rename_i hc
      obtain ⟨ha, hb⟩ := hc
      cases h
      refine ⟨by simp, by simp, by simp, ?_⟩
      have i0 : InW (a - b) := ((Bd.of ha).sub (Bd.of hb)).w (by decide)
      simp [Try.f124, ha, hb, fitI ha, fitI hb, i0, sval_limb i0, R8_limb, fitV]
    · simp at h
  · simp at h

noncomputable def r5BackS : List AV → PR
  | [.agg [.int .i64 a, .int .i64 b, .int .i64 c, .int .i64 d]] => open Classical in if InI a ∧ InI b ∧ InI c ∧ InI d then .val (.agg [.int .i64 a, .int .i64 (clampI (-b)), .int .i64 (clampI (-c)), .int .i64 (clampI (-d))]) else .fail
  | _ => .fail
@[simp] theorem r5BackS_val {a b c d : Int} (h : InI a ∧ InI b ∧ InI c ∧ InI d) : r5BackS [.agg [.int .i64 a, .int .i64 b, .int .i64 c, .int .i64 d]] = .val (.agg [.int .i64 a, .int .i64 (clampI (-b)), .int .i64 (clampI (-c)), .int .i64 (clampI (-d))]) := if_pos h
theorem r5Back_ok : SumOk Try.prog 60 (pureS r5BackS) := by
  refine sum_fn (L := fun i => if i = 1 then some (.quiet 12) else none) (n := 1) (S := stOf [(124, pureS r2subS)]) drawS Try.T_ok (stOf_ok (by simp [r2sub_ok])) Try.func60 rfl (by kernel_rfl) (by kernel_rfl) ?_
    (by intro args v h; unfold r5BackS at h; split at h <;> (try split at h) <;> simp at h)
  intro args v h
  unfold r5BackS at h
  split at h
  · rename_i a b c d
    split at h
    · rename_i hc
      obtain ⟨ha, hb, hc, hd⟩ := hc
      cases h
      refine ⟨by simp, by simp, by simp, ?_⟩
      simp [Try.f60, hb, hc, hd, InI_zero]
    · simp at h
  · simp at h

noncomputable def r5mulS : List AV → PR
  | [.int .i64 a, .int .i64 b] => open Classical in if InI a ∧ InI b then .val (W (a * b)) else .fail
  | _ => .fail
@[simp] theorem r5mulS_val {a b : Int} (h : InI a ∧ InI b) : r5mulS [.int .i64 a, .int .i64 b] = .val (W (a * b)) := if_pos h
theorem r5mul_ok : SumOk Try.prog 99 (pureS r5mulS) := by
  refine sum_fn (L := fun _ => none) (n := 1) (S := stOf [(147, pureS r3rawS), (146, pureS r3timesS)]) drawS Try.T_ok (stOf_ok (by simp [r3raw_ok, r3times_ok])) Try.func99 rfl (by kernel_rfl) (by kernel_rfl) ?_
    (by intro args v h; unfold r5mulS at h; split at h <;> (try split at h) <;> simp at h)
  intro args v h
  unfold r5mulS at h
  split at h
  · rename_i a b
    split at h
    · rename_i hc
      obtain ⟨ha, hb⟩ := hc
      cases h
      refine ⟨by simp, by simp, by simp, ?_⟩
      have i0 : InW (a * b) := ((Bd.of ha).mul (Bd.of hb)).w (by decide)
      simp [Try.f99, ha, hb, fitI ha, fitI hb, i0, R8_limb]
    · simp at h
  · simp at h

noncomputable def r5twoS : List AV → PR
  | [.int .i64 a, .int .i64 b, .int .i64 c, .int .i64 d] => open Classical in if InI a ∧ InI b ∧ InI c ∧ InI d then .val (W (a * b + c * d)) else .fail
  | _ => .fail
@[simp] theorem r5twoS_val {a b c d : Int} (h : InI a ∧ InI b ∧ InI c ∧ InI d) : r5twoS [.int .i64 a, .int .i64 b, .int .i64 c, .int .i64 d] = .val (W (a * b + c * d)) := if_pos h
theorem r5two_ok : SumOk Try.prog 145 (pureS r5twoS) := by
  refine sum_fn (L := fun _ => none) (n := 1) (S := stOf [(102, pureS r3plusS), (99, pureS r5mulS)]) drawS Try.T_ok (stOf_ok (by simp [r3plus_ok, r5mul_ok])) Try.func145 rfl (by kernel_rfl) (by kernel_rfl) ?_
    (by intro args v h; unfold r5twoS at h; split at h <;> (try split at h) <;> simp at h)
  intro args v h
  unfold r5twoS at h
  split at h
  · rename_i a b c d
    split at h
    · rename_i hc
      obtain ⟨ha, hb, hc, hd⟩ := hc
      cases h
      refine ⟨by simp, by simp, by simp, ?_⟩
      have i0 : InW (a * b) := ((Bd.of ha).mul (Bd.of hb)).w (by decide)
      have i1 : InW (c * d) := ((Bd.of hc).mul (Bd.of hd)).w (by decide)
      have i2 : InW (a * b + c * d) := (((Bd.of ha).mul (Bd.of hb)).add ((Bd.of hc).mul (Bd.of hd))).w (by decide)
      simp [Try.f145, ha, hb, hc, hd, sval_limb i0, sval_limb i1, i2, R8_limb]
    · simp at h
  · simp at h

noncomputable def r5squareS : List AV → PR
  | [.agg [.int .i64 a, .int .i64 b, .int .i64 c, .int .i64 d]] => open Classical in if InI a ∧ InI b ∧ InI c ∧ InI d then .val (W (sq4 a b c d)) else .fail
  | _ => .fail
@[simp] theorem r5squareS_val {a b c d : Int} (h : InI a ∧ InI b ∧ InI c ∧ InI d) : r5squareS [.agg [.int .i64 a, .int .i64 b, .int .i64 c, .int .i64 d]] = .val (W (sq4 a b c d)) := if_pos h
theorem r5square_ok : SumOk Try.prog 94 (pureS r5squareS) := by
  refine sum_fn (L := fun i => if i = 1 then some (.quiet 19) else none) (n := 1) (S := stOf [(102, pureS r3plusS), (145, pureS r5twoS)]) drawS Try.T_ok (stOf_ok (by simp [r3plus_ok, r5two_ok])) Try.func94 rfl (by kernel_rfl) (by kernel_rfl) ?_
    (by intro args v h; unfold r5squareS at h; split at h <;> (try split at h) <;> simp at h)
  intro args v h
  unfold r5squareS at h
  split at h
  · rename_i a b c d
    split at h
    · rename_i hc
      obtain ⟨ha, hb, hc, hd⟩ := hc
      cases h
      refine ⟨by simp, by simp, by simp, ?_⟩
      have i0 : InW (a * a + b * b) := (((Bd.of ha).mul (Bd.of ha)).add ((Bd.of hb).mul (Bd.of hb))).w (by decide)
      have i1 : InW (c * c + d * d) := (((Bd.of hc).mul (Bd.of hc)).add ((Bd.of hd).mul (Bd.of hd))).w (by decide)
      have i2 : InW (a * a + b * b + (c * c + d * d)) := ((((Bd.of ha).mul (Bd.of ha)).add ((Bd.of hb).mul (Bd.of hb))).add (((Bd.of hc).mul (Bd.of hc)).add ((Bd.of hd).mul (Bd.of hd)))).w (by decide)
      have e : a * a + b * b + (c * c + d * d) = sq4 a b c d := by unfold sq4; grind
      simp [Try.f94, ha, hb, hc, hd, sval_limb i0, sval_limb i1, i2, R8_limb]
      rw [e]
      exact Eqv.refl _
    · simp at h
  · simp at h

noncomputable def r5checkS : List AV → PR
  | [.agg [.int .i64 a, .int .i64 b, .int .i64 c, .int .i64 d]] => open Classical in if InI a ∧ InI b ∧ InI c ∧ InI d then .val (.int .i64 (if TurnP a b c d then 0 else 9)) else .fail
  | _ => .fail
@[simp] theorem r5checkS_val {a b c d : Int} (h : InI a ∧ InI b ∧ InI c ∧ InI d) : r5checkS [.agg [.int .i64 a, .int .i64 b, .int .i64 c, .int .i64 d]] = .val (.int .i64 (if TurnP a b c d then 0 else 9)) := if_pos h
set_option maxHeartbeats 4000000 in
theorem r5check_ok : SumOk Try.prog 58 (pureS r5checkS) := by
  refine sum_fn (L := fun _ => none) (n := 1) (S := stOf [(122, pureS cmpS), (121, pureS ofS), (103, pureS r3twiceS), (94, pureS r5squareS)]) drawS Try.T_ok (stOf_ok (by simp [rcmp_ok, small_ok, r3twice_ok, r5square_ok])) Try.func58 rfl (by kernel_rfl) (by kernel_rfl) ?_
    (by intro args v h; unfold r5checkS at h; split at h <;> (try split at h) <;> simp at h)
  intro args v h
  unfold r5checkS at h
  split at h
  · rename_i a b c d
    split at h
    · rename_i hc
      obtain ⟨ha, hb, hc, hd⟩ := hc
      cases h
      refine ⟨by simp, by simp, by simp, ?_⟩
      have sb := Bd_sq4 (Bd.of ha) (Bd.of hb) (Bd.of hc) (Bd.of hd)
      have si := sb.w (by decide)
      by_cases ll : sq4 a b c d < 4611686018427387904
      · have t : ¬ TurnP a b c d := fun e => by unfold TurnP at e; omega
        have k := cmpI_neg.2 ll
        simp [ha, hb, hc, hd, R8_limb, InW_62, sval_limb InW_62, ofS_in InI_1, fitI InI_1, Try.f58, sval_limb si, t, k]
      · have k : ¬ cmpI (sq4 a b c d) 4611686018427387904 < 0 := fun e => ll (cmpI_neg.1 e)
        by_cases hh : 73786976294838206464 < sq4 a b c d
        · have t : ¬ TurnP a b c d := fun e => by unfold TurnP at e; omega
          have k2 := cmpI_pos.2 hh
          simp [ha, hb, hc, hd, R8_limb, InW_62, InW_66, sval_limb InW_62, sval_limb InW_66, ofS_in InI_1, fitI InI_1, Try.f58, sval_limb si, t, k, k2]
        · have t : TurnP a b c d := by unfold TurnP; omega
          have k2 : ¬ 0 < cmpI (sq4 a b c d) 73786976294838206464 := fun e => hh (cmpI_pos.1 e)
          simp [ha, hb, hc, hd, R8_limb, InW_62, InW_66, sval_limb InW_62, sval_limb InW_66, ofS_in InI_1, fitI InI_1, Try.f58, sval_limb si, t, k, k2]
    · simp at h
  · simp at h

noncomputable def r5WS : List AV → PR
  | [.agg [.int .i64 a, .int .i64 b, .int .i64 c, .int .i64 d], .agg [.int .i64 e, .int .i64 f, .int .i64 g, .int .i64 k]] => open Classical in if InI a ∧ InI b ∧ InI c ∧ InI d ∧ InI e ∧ InI f ∧ InI g ∧ InI k then .val (W (qW a b c d e f g k)) else .fail
  | _ => .fail
@[simp] theorem r5WS_val {a b c d e f g k : Int} (h : InI a ∧ InI b ∧ InI c ∧ InI d ∧ InI e ∧ InI f ∧ InI g ∧ InI k) : r5WS [.agg [.int .i64 a, .int .i64 b, .int .i64 c, .int .i64 d], .agg [.int .i64 e, .int .i64 f, .int .i64 g, .int .i64 k]] = .val (W (qW a b c d e f g k)) := if_pos h
set_option maxHeartbeats 4000000 in
theorem r5W_ok : SumOk Try.prog 117 (pureS r5WS) := by
  refine sum_fn (L := fun i => if i = 1 then some (.quiet 21) else none) (n := 1) (S := stOf [(101, pureS r3lessS), (102, pureS r3plusS), (99, pureS r5mulS), (145, pureS r5twoS)]) drawS Try.T_ok (stOf_ok (by simp [r3less_ok, r3plus_ok, r5mul_ok, r5two_ok])) Try.func117 rfl (by kernel_rfl) (by kernel_rfl) ?_
    (by intro args v h; unfold r5WS at h; split at h <;> (try split at h) <;> simp at h)
  intro args v h
  unfold r5WS at h
  split at h
  · rename_i a b c d e f g k
    split at h
    · rename_i hc
      obtain ⟨ha, hb, hc, hd, he, hf, hg, hk⟩ := hc
      cases h
      refine ⟨by simp, by simp, by simp, ?_⟩
      have i0 : InW (a * e) := ((Bd.of ha).mul (Bd.of he)).w (by decide)
      have i1 : InW (b * f) := ((Bd.of hb).mul (Bd.of hf)).w (by decide)
      have i2 : InW (c * g) := ((Bd.of hc).mul (Bd.of hg)).w (by decide)
      have i3 : InW (d * k) := ((Bd.of hd).mul (Bd.of hk)).w (by decide)
      have i4 : InW (b * f + c * g) := (((Bd.of hb).mul (Bd.of hf)).add ((Bd.of hc).mul (Bd.of hg))).w (by decide)
      have i5 : InW (b * f + c * g + d * k) := ((((Bd.of hb).mul (Bd.of hf)).add ((Bd.of hc).mul (Bd.of hg))).add (((Bd.of hd).mul (Bd.of hk)).mono (by decide : 126 ≤ 127))).w (by decide)
      have i6 : InW (a * e - (b * f + c * g + d * k)) := ((((Bd.of ha).mul (Bd.of he)).mono (by decide : 126 ≤ 128)).sub ((((Bd.of hb).mul (Bd.of hf)).add ((Bd.of hc).mul (Bd.of hg))).add (((Bd.of hd).mul (Bd.of hk)).mono (by decide : 126 ≤ 127)))).w (by decide)
      have eq1 : a * e - (b * f + c * g + d * k) = qW a b c d e f g k := by unfold qW; grind
      simp [Try.f117, ha, hb, hc, hd, he, hf, hg, hk, sval_limb i0, sval_limb i3, sval_limb i4, i5, sval_limb i5, i6, R8_limb]
      rw [eq1]
      exact Eqv.refl _
    · simp at h
  · simp at h

noncomputable def r5XS : List AV → PR
  | [.agg [.int .i64 a, .int .i64 b, .int .i64 c, .int .i64 d], .agg [.int .i64 e, .int .i64 f, .int .i64 g, .int .i64 k]] => open Classical in if InI a ∧ InI b ∧ InI c ∧ InI d ∧ InI e ∧ InI f ∧ InI g ∧ InI k then .val (W (qX a b c d e f g k)) else .fail
  | _ => .fail
@[simp] theorem r5XS_val {a b c d e f g k : Int} (h : InI a ∧ InI b ∧ InI c ∧ InI d ∧ InI e ∧ InI f ∧ InI g ∧ InI k) : r5XS [.agg [.int .i64 a, .int .i64 b, .int .i64 c, .int .i64 d], .agg [.int .i64 e, .int .i64 f, .int .i64 g, .int .i64 k]] = .val (W (qX a b c d e f g k)) := if_pos h
set_option maxHeartbeats 4000000 in
theorem r5X_ok : SumOk Try.prog 118 (pureS r5XS) := by
  refine sum_fn (L := fun i => if i = 1 then some (.quiet 21) else none) (n := 1) (S := stOf [(101, pureS r3lessS), (102, pureS r3plusS), (99, pureS r5mulS), (145, pureS r5twoS)]) drawS Try.T_ok (stOf_ok (by simp [r3less_ok, r3plus_ok, r5mul_ok, r5two_ok])) Try.func118 rfl (by kernel_rfl) (by kernel_rfl) ?_
    (by intro args v h; unfold r5XS at h; split at h <;> (try split at h) <;> simp at h)
  intro args v h
  unfold r5XS at h
  split at h
  · rename_i a b c d e f g k
    split at h
    · rename_i hc
      obtain ⟨ha, hb, hc, hd, he, hf, hg, hk⟩ := hc
      cases h
      refine ⟨by simp, by simp, by simp, ?_⟩
      have i0 : InW (a * f) := ((Bd.of ha).mul (Bd.of hf)).w (by decide)
      have i1 : InW (b * e) := ((Bd.of hb).mul (Bd.of he)).w (by decide)
      have i2 : InW (c * k) := ((Bd.of hc).mul (Bd.of hk)).w (by decide)
      have i3 : InW (d * g) := ((Bd.of hd).mul (Bd.of hg)).w (by decide)
      have i4 : InW (a * f + b * e) := (((Bd.of ha).mul (Bd.of hf)).add ((Bd.of hb).mul (Bd.of he))).w (by decide)
      have i5 : InW (a * f + b * e + c * k) := ((((Bd.of ha).mul (Bd.of hf)).add ((Bd.of hb).mul (Bd.of he))).add (((Bd.of hc).mul (Bd.of hk)).mono (by decide : 126 ≤ 127))).w (by decide)
      have i6 : InW (a * f + b * e + c * k - d * g) := (((((Bd.of ha).mul (Bd.of hf)).add ((Bd.of hb).mul (Bd.of he))).add (((Bd.of hc).mul (Bd.of hk)).mono (by decide : 126 ≤ 127))).sub (((Bd.of hd).mul (Bd.of hg)).mono (by decide : 126 ≤ 128))).w (by decide)
      have eq1 : a * f + b * e + c * k - d * g = qX a b c d e f g k := by unfold qX; grind
      simp [Try.f118, ha, hb, hc, hd, he, hf, hg, hk, sval_limb i2, sval_limb i3, sval_limb i4, i5, sval_limb i5, i6, R8_limb]
      rw [eq1]
      exact Eqv.refl _
    · simp at h
  · simp at h

noncomputable def r5YS : List AV → PR
  | [.agg [.int .i64 a, .int .i64 b, .int .i64 c, .int .i64 d], .agg [.int .i64 e, .int .i64 f, .int .i64 g, .int .i64 k]] => open Classical in if InI a ∧ InI b ∧ InI c ∧ InI d ∧ InI e ∧ InI f ∧ InI g ∧ InI k then .val (W (qY a b c d e f g k)) else .fail
  | _ => .fail
@[simp] theorem r5YS_val {a b c d e f g k : Int} (h : InI a ∧ InI b ∧ InI c ∧ InI d ∧ InI e ∧ InI f ∧ InI g ∧ InI k) : r5YS [.agg [.int .i64 a, .int .i64 b, .int .i64 c, .int .i64 d], .agg [.int .i64 e, .int .i64 f, .int .i64 g, .int .i64 k]] = .val (W (qY a b c d e f g k)) := if_pos h
set_option maxHeartbeats 4000000 in
theorem r5Y_ok : SumOk Try.prog 119 (pureS r5YS) := by
  refine sum_fn (L := fun i => if i = 1 then some (.quiet 21) else none) (n := 1) (S := stOf [(101, pureS r3lessS), (102, pureS r3plusS), (99, pureS r5mulS), (145, pureS r5twoS)]) drawS Try.T_ok (stOf_ok (by simp [r3less_ok, r3plus_ok, r5mul_ok, r5two_ok])) Try.func119 rfl (by kernel_rfl) (by kernel_rfl) ?_
    (by intro args v h; unfold r5YS at h; split at h <;> (try split at h) <;> simp at h)
  intro args v h
  unfold r5YS at h
  split at h
  · rename_i a b c d e f g k
    split at h
    · rename_i hc
      obtain ⟨ha, hb, hc, hd, he, hf, hg, hk⟩ := hc
      cases h
      refine ⟨by simp, by simp, by simp, ?_⟩
      have i0 : InW (a * g) := ((Bd.of ha).mul (Bd.of hg)).w (by decide)
      have i1 : InW (c * e) := ((Bd.of hc).mul (Bd.of he)).w (by decide)
      have i2 : InW (d * f) := ((Bd.of hd).mul (Bd.of hf)).w (by decide)
      have i3 : InW (b * k) := ((Bd.of hb).mul (Bd.of hk)).w (by decide)
      have i4 : InW (a * g + c * e) := (((Bd.of ha).mul (Bd.of hg)).add ((Bd.of hc).mul (Bd.of he))).w (by decide)
      have i5 : InW (a * g + c * e + d * f) := ((((Bd.of ha).mul (Bd.of hg)).add ((Bd.of hc).mul (Bd.of he))).add (((Bd.of hd).mul (Bd.of hf)).mono (by decide : 126 ≤ 127))).w (by decide)
      have i6 : InW (a * g + c * e + d * f - b * k) := (((((Bd.of ha).mul (Bd.of hg)).add ((Bd.of hc).mul (Bd.of he))).add (((Bd.of hd).mul (Bd.of hf)).mono (by decide : 126 ≤ 127))).sub (((Bd.of hb).mul (Bd.of hk)).mono (by decide : 126 ≤ 128))).w (by decide)
      have eq1 : a * g + c * e + d * f - b * k = qY a b c d e f g k := by unfold qY; grind
      simp [Try.f119, ha, hb, hc, hd, he, hf, hg, hk, sval_limb i2, sval_limb i3, sval_limb i4, i5, sval_limb i5, i6, R8_limb]
      rw [eq1]
      exact Eqv.refl _
    · simp at h
  · simp at h

noncomputable def r5ZS : List AV → PR
  | [.agg [.int .i64 a, .int .i64 b, .int .i64 c, .int .i64 d], .agg [.int .i64 e, .int .i64 f, .int .i64 g, .int .i64 k]] => open Classical in if InI a ∧ InI b ∧ InI c ∧ InI d ∧ InI e ∧ InI f ∧ InI g ∧ InI k then .val (W (qZ a b c d e f g k)) else .fail
  | _ => .fail
@[simp] theorem r5ZS_val {a b c d e f g k : Int} (h : InI a ∧ InI b ∧ InI c ∧ InI d ∧ InI e ∧ InI f ∧ InI g ∧ InI k) : r5ZS [.agg [.int .i64 a, .int .i64 b, .int .i64 c, .int .i64 d], .agg [.int .i64 e, .int .i64 f, .int .i64 g, .int .i64 k]] = .val (W (qZ a b c d e f g k)) := if_pos h
set_option maxHeartbeats 4000000 in
theorem r5Z_ok : SumOk Try.prog 120 (pureS r5ZS) := by
  refine sum_fn (L := fun i => if i = 1 then some (.quiet 21) else none) (n := 1) (S := stOf [(101, pureS r3lessS), (102, pureS r3plusS), (99, pureS r5mulS), (145, pureS r5twoS)]) drawS Try.T_ok (stOf_ok (by simp [r3less_ok, r3plus_ok, r5mul_ok, r5two_ok])) Try.func120 rfl (by kernel_rfl) (by kernel_rfl) ?_
    (by intro args v h; unfold r5ZS at h; split at h <;> (try split at h) <;> simp at h)
  intro args v h
  unfold r5ZS at h
  split at h
  · rename_i a b c d e f g k
    split at h
    · rename_i hc
      obtain ⟨ha, hb, hc, hd, he, hf, hg, hk⟩ := hc
      cases h
      refine ⟨by simp, by simp, by simp, ?_⟩
      have i0 : InW (a * k) := ((Bd.of ha).mul (Bd.of hk)).w (by decide)
      have i1 : InW (d * e) := ((Bd.of hd).mul (Bd.of he)).w (by decide)
      have i2 : InW (b * g) := ((Bd.of hb).mul (Bd.of hg)).w (by decide)
      have i3 : InW (c * f) := ((Bd.of hc).mul (Bd.of hf)).w (by decide)
      have i4 : InW (a * k + d * e) := (((Bd.of ha).mul (Bd.of hk)).add ((Bd.of hd).mul (Bd.of he))).w (by decide)
      have i5 : InW (a * k + d * e + b * g) := ((((Bd.of ha).mul (Bd.of hk)).add ((Bd.of hd).mul (Bd.of he))).add (((Bd.of hb).mul (Bd.of hg)).mono (by decide : 126 ≤ 127))).w (by decide)
      have i6 : InW (a * k + d * e + b * g - c * f) := (((((Bd.of ha).mul (Bd.of hk)).add ((Bd.of hd).mul (Bd.of he))).add (((Bd.of hb).mul (Bd.of hg)).mono (by decide : 126 ≤ 127))).sub (((Bd.of hc).mul (Bd.of hf)).mono (by decide : 126 ≤ 128))).w (by decide)
      have eq1 : a * k + d * e + b * g - c * f = qZ a b c d e f g k := by unfold qZ; grind
      simp [Try.f120, ha, hb, hc, hd, he, hf, hg, hk, sval_limb i2, sval_limb i3, sval_limb i4, i5, sval_limb i5, i6, R8_limb]
      rw [eq1]
      exact Eqv.refl _
    · simp at h
  · simp at h

noncomputable def r5MulS : List AV → PR
  | [.agg [.int .i64 a, .int .i64 b, .int .i64 c, .int .i64 d], .agg [.int .i64 e, .int .i64 f, .int .i64 g, .int .i64 k]] => open Classical in if InI a ∧ InI b ∧ InI c ∧ InI d ∧ InI e ∧ InI f ∧ InI g ∧ InI k then .val (.agg [.int .i64 (clampI (qW a b c d e f g k / 2 ^ 32)), .int .i64 (clampI (qX a b c d e f g k / 2 ^ 32)), .int .i64 (clampI (qY a b c d e f g k / 2 ^ 32)), .int .i64 (clampI (qZ a b c d e f g k / 2 ^ 32))]) else .fail
  | _ => .fail
@[simp] theorem r5MulS_val {a b c d e f g k : Int} (h : InI a ∧ InI b ∧ InI c ∧ InI d ∧ InI e ∧ InI f ∧ InI g ∧ InI k) : r5MulS [.agg [.int .i64 a, .int .i64 b, .int .i64 c, .int .i64 d], .agg [.int .i64 e, .int .i64 f, .int .i64 g, .int .i64 k]] = .val (.agg [.int .i64 (clampI (qW a b c d e f g k / 2 ^ 32)), .int .i64 (clampI (qX a b c d e f g k / 2 ^ 32)), .int .i64 (clampI (qY a b c d e f g k / 2 ^ 32)), .int .i64 (clampI (qZ a b c d e f g k / 2 ^ 32))]) := if_pos h
theorem r5Mul_ok : SumOk Try.prog 61 (pureS r5MulS) := by
  refine sum_fn (L := fun i => if i = 1 then some (.quiet 17) else none) (n := 1) (S := stOf [(68, pureS r2inS), (117, pureS r5WS), (118, pureS r5XS), (119, pureS r5YS), (120, pureS r5ZS)]) drawS Try.T_ok (stOf_ok (by simp [r2in_ok, r5W_ok, r5X_ok, r5Y_ok, r5Z_ok])) Try.func61 rfl (by kernel_rfl) (by kernel_rfl) ?_
    (by intro args v h; unfold r5MulS at h; split at h <;> (try split at h) <;> simp at h)
  intro args v h
  unfold r5MulS at h
  split at h
  · rename_i a b c d e f g k
    split at h
    · rename_i hc
      obtain ⟨ha, hb, hc, hd, he, hf, hg, hk⟩ := hc
      cases h
      refine ⟨by simp, by simp, by simp, ?_⟩
      have q := Bd_q (Bd.of ha) (Bd.of hb) (Bd.of hc) (Bd.of hd) (Bd.of he) (Bd.of hf) (Bd.of hg) (Bd.of hk)
      obtain ⟨u0, u1, u2, u3⟩ := q
      have v0 := u0.w (by decide)
      have v1 := u1.w (by decide)
      have v2 := u2.w (by decide)
      have v3 := u3.w (by decide)
      simp [Try.f61, ha, hb, hc, hd, he, hf, hg, hk, R8_limb, sval_limb v0, sval_limb v1, sval_limb v2, sval_limb v3]
    · simp at h
  · simp at h

end Go.X
