/- Quaternions: products and the rotation back, in package quat and in the reference 05. -/
import Derived.Test.YtfhooccdhmkaoaaJMR
namespace Go.X
open Go.Proofs
attribute [local irreducible] Good

theorem InW_62 : InW 4611686018427387904 := InI.w (by decide)
theorem InW_66 : InW 73786976294838206464 := (show Bd 67 73786976294838206464 by unfold Bd; decide).w (by decide)
theorem InI_1 : InI 1 := by decide

noncomputable def qcheckS : List AV → PR
  | [.agg [.int .i64 a, .int .i64 b, .int .i64 c, .int .i64 d]] => open Classical in if InI a ∧ InI b ∧ InI c ∧ InI d then .val (.int .i64 (if TurnP a b c d then 0 else 9)) else .fail
  | _ => .fail
@[simp] theorem qcheckS_val {a b c d : Int} (h : InI a ∧ InI b ∧ InI c ∧ InI d) : qcheckS [.agg [.int .i64 a, .int .i64 b, .int .i64 c, .int .i64 d]] = .val (.int .i64 (if TurnP a b c d then 0 else 9)) := if_pos h
set_option maxHeartbeats 4000000 in
theorem qcheck_ok : SumOk Try.prog 65 (pureS qcheckS) := by
  refine sum_fn (L := fun _ => none) (n := 1) (S := stOf [(66, pureS qrawS), (67, pureS qsquareS), (118, pureS cmpS), (97, pureS ofS), (72, pureS shlS)]) drawS Try.T_ok (stOf_ok (by simp [qraw_ok, qsquare_ok, cmp_ok, of_ok, shl_ok])) Try.func65 rfl (by kernel_rfl) (by kernel_rfl) ?_
    (by intro args v h; unfold qcheckS at h; split at h <;> (try split at h) <;> simp at h)
  intro args v h
  unfold qcheckS at h
  split at h
  · rename_i a b c d
    split at h
    · rename_i hc
      obtain ⟨ha, hb, hc, hd⟩ := hc
      cases h
      refine ⟨by simp, by simp, by simp, ?_⟩
      have sb := Bd_sq4 (Bd.of ha) (Bd.of hb) (Bd.of hc) (Bd.of hd)
      have si := sb.w (by decide)
      by_cases ll : sq4 a b c d < 4611686018427387904
      · have t : ¬ TurnP a b c d := fun e => by unfold TurnP at e; omega
        have k := cmpI_neg.2 ll
        simp [ha, hb, hc, hd, fitI ha, fitI hb, fitI hc, fitI hd, R8_limb, Bd.of ha, Bd.of hb, Bd.of hc, Bd.of hd, shlV, fitV, InW_62, InW_66, sval_limb InW_62, ofS_in InI_1, fitI InI_1, Try.f65, sval_limb si, t, k]
      · have k : ¬ cmpI (sq4 a b c d) 4611686018427387904 < 0 := fun e => ll (cmpI_neg.1 e)
        by_cases hh : 73786976294838206464 < sq4 a b c d
        · have t : ¬ TurnP a b c d := fun e => by unfold TurnP at e; omega
          have k2 := cmpI_pos.2 hh
          simp [ha, hb, hc, hd, fitI ha, fitI hb, fitI hc, fitI hd, R8_limb, Bd.of ha, Bd.of hb, Bd.of hc, Bd.of hd, shlV, fitV, InW_62, InW_66, sval_limb InW_62, sval_limb InW_66, ofS_in InI_1, fitI InI_1, Try.f65, sval_limb si, t, k, k2]
        · have t : TurnP a b c d := by unfold TurnP; omega
          have k2 : ¬ 0 < cmpI (sq4 a b c d) 73786976294838206464 := fun e => hh (cmpI_pos.1 e)
          simp [ha, hb, hc, hd, fitI ha, fitI hb, fitI hc, fitI hd, R8_limb, Bd.of ha, Bd.of hb, Bd.of hc, Bd.of hd, shlV, fitV, InW_62, InW_66, sval_limb InW_62, sval_limb InW_66, ofS_in InI_1, fitI InI_1, Try.f65, sval_limb si, t, k, k2]
    · simp at h
  · simp at h

noncomputable def qmul1S : Sum := fun args env _ => match args with
  | [.int .i64 k, .ptr p 0] => match env p with
    | some ⟨[.arr .u64 8 n0, .arr .u64 8 n1, .arr .u64 8 n2, .arr .u64 8 n3], _⟩ => open Classical in if R8 n0 ∧ R8 n1 ∧ R8 n2 ∧ R8 n3 ∧ 0 ≤ k ∧ k < 4 then .val (.int .i64 (clampI (sval (pick4 n0 n1 n2 n3 k) / 4294967296))) [] [] else .fail
    | _ => .fail
  | _ => .fail
theorem qmul1_ok : SumOk Try.prog 76 qmul1S := by
  refine sum_read (L := fun _ => none) (n := 1) (S := stOf [(64, pureS finS)]) drawS Try.T_ok (stOf_ok (by simp [fin_ok])) Try.func76 rfl (by kernel_rfl) (by kernel_rfl) ?_
  intro args env nxt h
  unfold qmul1S at h ⊢
  split at h
  · rename_i k p
    split at h
    · rename_i n0 n1 n2 n3 ty0 m0
      split at h
      · rename_i hc
        obtain ⟨hn0, hn1, hn2, hn3, e0, e1⟩ := id hc
        refine ⟨_, _, _, .int .i64 (clampI (sval (pick4 n0 n1 n2 n3 k) / 4294967296)), laid1 [.int .i64 k, .ptr 0 0] rfl (by simp) m0 rfl, by first | exact if_pos hc | (simp only [m0]; exact if_pos hc), by simp, by simp, ?_⟩
        have rp := R8_pick4 hn0 hn1 hn2 hn3
        simp [Try.f76, e0, e1, rp, cut4 e0 e1]
      · simp at h
    · simp at h
  · simp at h

noncomputable def qofMulS : Sum := fun args env _ => match args with
  | [.fn 76 [.ptr p 0]] => match env p with
    | some ⟨[.arr .u64 8 n0, .arr .u64 8 n1, .arr .u64 8 n2, .arr .u64 8 n3], _⟩ => open Classical in if R8 n0 ∧ R8 n1 ∧ R8 n2 ∧ R8 n3 then .val (.agg [.int .i64 (clampI (sval n0 / 4294967296)), .int .i64 (clampI (sval n1 / 4294967296)), .int .i64 (clampI (sval n2 / 4294967296)), .int .i64 (clampI (sval n3 / 4294967296))]) [] [] else .fail
    | _ => .fail
  | _ => .fail
theorem qofMul_ok : SumOk Try.prog 68 qofMulS := by
  refine sum_read (L := fun _ => none) (n := 1) (S := stOf [(76, qmul1S)]) drawS Try.T_ok (stOf_ok (by simp [qmul1_ok])) Try.func68 rfl (by kernel_rfl) (by kernel_rfl) ?_
  intro args env nxt h
  unfold qofMulS at h ⊢
  split at h
  · rename_i p
    split at h
    · rename_i n0 n1 n2 n3 ty0 m0
      split at h
      · rename_i hc
        obtain ⟨hn0, hn1, hn2, hn3⟩ := id hc
        refine ⟨_, _, _, .agg [.int .i64 (clampI (sval n0 / 4294967296)), .int .i64 (clampI (sval n1 / 4294967296)), .int .i64 (clampI (sval n2 / 4294967296)), .int .i64 (clampI (sval n3 / 4294967296))], laid1 [.fn 76 [.ptr 0 0]] rfl (by simp) m0 rfl, by first | exact if_pos hc | (simp only [m0]; exact if_pos hc), by simp, by simp, ?_⟩
        simp [Try.f68, hn0, hn1, hn2, hn3, qmul1S, pick4]
      · simp at h
    · simp at h
  · simp at h

noncomputable def qMulS : List AV → PR
  | [.agg [.int .i64 a, .int .i64 b, .int .i64 c, .int .i64 d], .agg [.int .i64 e, .int .i64 f, .int .i64 g, .int .i64 k]] => open Classical in if InI a ∧ InI b ∧ InI c ∧ InI d ∧ InI e ∧ InI f ∧ InI g ∧ InI k then .val (.agg [.int .i64 (clampI (qW a b c d e f g k / 2 ^ 32)), .int .i64 (clampI (qX a b c d e f g k / 2 ^ 32)), .int .i64 (clampI (qY a b c d e f g k / 2 ^ 32)), .int .i64 (clampI (qZ a b c d e f g k / 2 ^ 32))]) else .fail
  | _ => .fail
@[simp] theorem qMulS_val {a b c d e f g k : Int} (h : InI a ∧ InI b ∧ InI c ∧ InI d ∧ InI e ∧ InI f ∧ InI g ∧ InI k) : qMulS [.agg [.int .i64 a, .int .i64 b, .int .i64 c, .int .i64 d], .agg [.int .i64 e, .int .i64 f, .int .i64 g, .int .i64 k]] = .val (.agg [.int .i64 (clampI (qW a b c d e f g k / 2 ^ 32)), .int .i64 (clampI (qX a b c d e f g k / 2 ^ 32)), .int .i64 (clampI (qY a b c d e f g k / 2 ^ 32)), .int .i64 (clampI (qZ a b c d e f g k / 2 ^ 32))]) := if_pos h
theorem qMul_ok : SumOk Try.prog 26 (pureS qMulS) := by
  refine sum_fn (L := fun i => if i = 1 then some (.quiet 6) else none) (n := 1) (S := stOf [(66, pureS qrawS), (75, pureS qprodS), (68, qofMulS)]) drawS Try.T_ok (stOf_ok (by simp [qraw_ok, qprod_ok, qofMul_ok])) Try.func26 rfl (by kernel_rfl) (by kernel_rfl) ?_
    (by intro args v h; unfold qMulS at h; split at h <;> (try split at h) <;> simp at h)
  intro args v h
  unfold qMulS at h
  split at h
  · rename_i a b c d e f g k
    split at h
    · rename_i hc
      obtain ⟨ha, hb, hc, hd, he, hf, hg, hk⟩ := hc
      cases h
      refine ⟨by simp, by simp, by simp, ?_⟩
      have q := Bd_q (Bd.of ha) (Bd.of hb) (Bd.of hc) (Bd.of hd) (Bd.of he) (Bd.of hf) (Bd.of hg) (Bd.of hk)
      obtain ⟨u0, u1, u2, u3⟩ := q
      have v0 := u0.w (by decide)
      have v1 := u1.w (by decide)
      have v2 := u2.w (by decide)
      have v3 := u3.w (by decide)
      simp [Try.f26, ha, hb, hc, hd, he, hf, hg, hk, fitI ha, fitI hb, fitI hc, fitI hd, fitI he, fitI hf, fitI hg, fitI hk, R8_limb, sval_limb v0, sval_limb v1, sval_limb v2, sval_limb v3, Bd.of ha, Bd.of hb, Bd.of hc, Bd.of hd, Bd.of he, Bd.of hf, Bd.of hg, Bd.of hk, qofMulS]
    · simp at h
  · simp at h

noncomputable def qOneS : List AV → PR
  | [] => .val (.agg [.int .i64 4294967296, .int .i64 0, .int .i64 0, .int .i64 0])
  | _ => .fail
@[simp] theorem qOneS_val : qOneS [] = .val (.agg [.int .i64 4294967296, .int .i64 0, .int .i64 0, .int .i64 0]) := rfl
theorem qOne_ok : SumOk Try.prog 49 (pureS qOneS) := by
  refine sum_fn (L := fun _ => none) (n := 1) (S := stOf []) drawS Try.T_ok (stOf_ok (by simp)) Try.func49 rfl (by kernel_rfl) (by kernel_rfl) ?_
    (by intro args v h; unfold qOneS at h; split at h <;> (try split at h) <;> simp at h)
  intro args v h
  unfold qOneS at h
  split at h
  · skip
    cases h
    refine ⟨by simp, by simp, by simp, ?_⟩
    simp [Try.f49]
  · simp at h

noncomputable def foppoS : List AV → PR
  | [.arr .u64 8 f] => open Classical in if R8 f ∧ InW (-sval f) then .val (W (-sval f)) else .fail
  | _ => .fail
@[simp] theorem foppoS_val {f : Nat → Int} (h : R8 f ∧ InW (-sval f)) : foppoS [.arr .u64 8 f] = .val (W (-sval f)) := if_pos h
noncomputable def fSubS : List AV → PR
  | [.int .i64 a, .int .i64 b] => open Classical in if InI a ∧ InI b then .val (.int .i64 (clampI (a - b))) else .fail
  | _ => .fail
@[simp] theorem fSubS_val {a b : Int} (h : InI a ∧ InI b) : fSubS [.int .i64 a, .int .i64 b] = .val (.int .i64 (clampI (a - b))) := if_pos h
noncomputable def qBackS : List AV → PR
  | [.agg [.int .i64 a, .int .i64 b, .int .i64 c, .int .i64 d]] => open Classical in if InI a ∧ InI b ∧ InI c ∧ InI d then .val (.agg [.int .i64 a, .int .i64 (clampI (-b)), .int .i64 (clampI (-c)), .int .i64 (clampI (-d))]) else .fail
  | _ => .fail
@[simp] theorem qBackS_val {a b c d : Int} (h : InI a ∧ InI b ∧ InI c ∧ InI d) : qBackS [.agg [.int .i64 a, .int .i64 b, .int .i64 c, .int .i64 d]] = .val (.agg [.int .i64 a, .int .i64 (clampI (-b)), .int .i64 (clampI (-c)), .int .i64 (clampI (-d))]) := if_pos h
noncomputable def r2subS : List AV → PR
  | [.int .i64 a, .int .i64 b] => open Classical in if InI a ∧ InI b then .val (.int .i64 (clampI (a - b))) else .fail
  | _ => .fail
@[simp] theorem r2subS_val {a b : Int} (h : InI a ∧ InI b) : r2subS [.int .i64 a, .int .i64 b] = .val (.int .i64 (clampI (a - b))) := if_pos h
noncomputable def r5BackS : List AV → PR
  | [.agg [.int .i64 a, .int .i64 b, .int .i64 c, .int .i64 d]] => open Classical in if InI a ∧ InI b ∧ InI c ∧ InI d then .val (.agg [.int .i64 a, .int .i64 (clampI (-b)), .int .i64 (clampI (-c)), .int .i64 (clampI (-d))]) else .fail
  | _ => .fail
@[simp] theorem r5BackS_val {a b c d : Int} (h : InI a ∧ InI b ∧ InI c ∧ InI d) : r5BackS [.agg [.int .i64 a, .int .i64 b, .int .i64 c, .int .i64 d]] = .val (.agg [.int .i64 a, .int .i64 (clampI (-b)), .int .i64 (clampI (-c)), .int .i64 (clampI (-d))]) := if_pos h
noncomputable def r5mulS : List AV → PR
  | [.int .i64 a, .int .i64 b] => open Classical in if InI a ∧ InI b then .val (W (a * b)) else .fail
  | _ => .fail
@[simp] theorem r5mulS_val {a b : Int} (h : InI a ∧ InI b) : r5mulS [.int .i64 a, .int .i64 b] = .val (W (a * b)) := if_pos h
noncomputable def r5twoS : List AV → PR
  | [.int .i64 a, .int .i64 b, .int .i64 c, .int .i64 d] => open Classical in if InI a ∧ InI b ∧ InI c ∧ InI d then .val (W (a * b + c * d)) else .fail
  | _ => .fail
@[simp] theorem r5twoS_val {a b c d : Int} (h : InI a ∧ InI b ∧ InI c ∧ InI d) : r5twoS [.int .i64 a, .int .i64 b, .int .i64 c, .int .i64 d] = .val (W (a * b + c * d)) := if_pos h
noncomputable def r5squareS : List AV → PR
  | [.agg [.int .i64 a, .int .i64 b, .int .i64 c, .int .i64 d]] => open Classical in if InI a ∧ InI b ∧ InI c ∧ InI d then .val (W (sq4 a b c d)) else .fail
  | _ => .fail
@[simp] theorem r5squareS_val {a b c d : Int} (h : InI a ∧ InI b ∧ InI c ∧ InI d) : r5squareS [.agg [.int .i64 a, .int .i64 b, .int .i64 c, .int .i64 d]] = .val (W (sq4 a b c d)) := if_pos h
noncomputable def r5checkS : List AV → PR
  | [.agg [.int .i64 a, .int .i64 b, .int .i64 c, .int .i64 d]] => open Classical in if InI a ∧ InI b ∧ InI c ∧ InI d then .val (.int .i64 (if TurnP a b c d then 0 else 9)) else .fail
  | _ => .fail
@[simp] theorem r5checkS_val {a b c d : Int} (h : InI a ∧ InI b ∧ InI c ∧ InI d) : r5checkS [.agg [.int .i64 a, .int .i64 b, .int .i64 c, .int .i64 d]] = .val (.int .i64 (if TurnP a b c d then 0 else 9)) := if_pos h
noncomputable def r5WS : List AV → PR
  | [.agg [.int .i64 a, .int .i64 b, .int .i64 c, .int .i64 d], .agg [.int .i64 e, .int .i64 f, .int .i64 g, .int .i64 k]] => open Classical in if InI a ∧ InI b ∧ InI c ∧ InI d ∧ InI e ∧ InI f ∧ InI g ∧ InI k then .val (W (qW a b c d e f g k)) else .fail
  | _ => .fail
@[simp] theorem r5WS_val {a b c d e f g k : Int} (h : InI a ∧ InI b ∧ InI c ∧ InI d ∧ InI e ∧ InI f ∧ InI g ∧ InI k) : r5WS [.agg [.int .i64 a, .int .i64 b, .int .i64 c, .int .i64 d], .agg [.int .i64 e, .int .i64 f, .int .i64 g, .int .i64 k]] = .val (W (qW a b c d e f g k)) := if_pos h
noncomputable def r5XS : List AV → PR
  | [.agg [.int .i64 a, .int .i64 b, .int .i64 c, .int .i64 d], .agg [.int .i64 e, .int .i64 f, .int .i64 g, .int .i64 k]] => open Classical in if InI a ∧ InI b ∧ InI c ∧ InI d ∧ InI e ∧ InI f ∧ InI g ∧ InI k then .val (W (qX a b c d e f g k)) else .fail
  | _ => .fail
@[simp] theorem r5XS_val {a b c d e f g k : Int} (h : InI a ∧ InI b ∧ InI c ∧ InI d ∧ InI e ∧ InI f ∧ InI g ∧ InI k) : r5XS [.agg [.int .i64 a, .int .i64 b, .int .i64 c, .int .i64 d], .agg [.int .i64 e, .int .i64 f, .int .i64 g, .int .i64 k]] = .val (W (qX a b c d e f g k)) := if_pos h
noncomputable def r5YS : List AV → PR
  | [.agg [.int .i64 a, .int .i64 b, .int .i64 c, .int .i64 d], .agg [.int .i64 e, .int .i64 f, .int .i64 g, .int .i64 k]] => open Classical in if InI a ∧ InI b ∧ InI c ∧ InI d ∧ InI e ∧ InI f ∧ InI g ∧ InI k then .val (W (qY a b c d e f g k)) else .fail
  | _ => .fail
@[simp] theorem r5YS_val {a b c d e f g k : Int} (h : InI a ∧ InI b ∧ InI c ∧ InI d ∧ InI e ∧ InI f ∧ InI g ∧ InI k) : r5YS [.agg [.int .i64 a, .int .i64 b, .int .i64 c, .int .i64 d], .agg [.int .i64 e, .int .i64 f, .int .i64 g, .int .i64 k]] = .val (W (qY a b c d e f g k)) := if_pos h
noncomputable def r5ZS : List AV → PR
  | [.agg [.int .i64 a, .int .i64 b, .int .i64 c, .int .i64 d], .agg [.int .i64 e, .int .i64 f, .int .i64 g, .int .i64 k]] => open Classical in if InI a ∧ InI b ∧ InI c ∧ InI d ∧ InI e ∧ InI f ∧ InI g ∧ InI k then .val (W (qZ a b c d e f g k)) else .fail
  | _ => .fail
@[simp] theorem r5ZS_val {a b c d e f g k : Int} (h : InI a ∧ InI b ∧ InI c ∧ InI d ∧ InI e ∧ InI f ∧ InI g ∧ InI k) : r5ZS [.agg [.int .i64 a, .int .i64 b, .int .i64 c, .int .i64 d], .agg [.int .i64 e, .int .i64 f, .int .i64 g, .int .i64 k]] = .val (W (qZ a b c d e f g k)) := if_pos h
noncomputable def r5MulS : List AV → PR
  | [.agg [.int .i64 a, .int .i64 b, .int .i64 c, .int .i64 d], .agg [.int .i64 e, .int .i64 f, .int .i64 g, .int .i64 k]] => open Classical in if InI a ∧ InI b ∧ InI c ∧ InI d ∧ InI e ∧ InI f ∧ InI g ∧ InI k then .val (.agg [.int .i64 (clampI (qW a b c d e f g k / 2 ^ 32)), .int .i64 (clampI (qX a b c d e f g k / 2 ^ 32)), .int .i64 (clampI (qY a b c d e f g k / 2 ^ 32)), .int .i64 (clampI (qZ a b c d e f g k / 2 ^ 32))]) else .fail
  | _ => .fail
@[simp] theorem r5MulS_val {a b c d e f g k : Int} (h : InI a ∧ InI b ∧ InI c ∧ InI d ∧ InI e ∧ InI f ∧ InI g ∧ InI k) : r5MulS [.agg [.int .i64 a, .int .i64 b, .int .i64 c, .int .i64 d], .agg [.int .i64 e, .int .i64 f, .int .i64 g, .int .i64 k]] = .val (.agg [.int .i64 (clampI (qW a b c d e f g k / 2 ^ 32)), .int .i64 (clampI (qX a b c d e f g k / 2 ^ 32)), .int .i64 (clampI (qY a b c d e f g k / 2 ^ 32)), .int .i64 (clampI (qZ a b c d e f g k / 2 ^ 32))]) := if_pos h
end Go.X
