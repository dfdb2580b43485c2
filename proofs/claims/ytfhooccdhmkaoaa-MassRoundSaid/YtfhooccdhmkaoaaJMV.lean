/- Quaternions: the reference's matrix; what is always told; the laws that ask the document's answer. -/
import Derived.Test.YtfhooccdhmkaoaaJMU
namespace Go.X
open Go.Proofs
attribute [local irreducible] Good

theorem big_sq {a : Int} (h : a = 9223372036854775807 ∨ a = -9223372036854775808) : 73786976294838206464 < a * a := by rcases h with rfl | rfl <;> decide
theorem not_Turn_big {a b c d : Int} (h : 73786976294838206464 < a * a ∨ 73786976294838206464 < b * b ∨ 73786976294838206464 < c * c ∨ 73786976294838206464 < d * d) : ¬ TurnP a b c d := by
  have ha := sq_nonneg a
  have hb := sq_nonneg b
  have hc := sq_nonneg c
  have hd := sq_nonneg d
  unfold TurnP sq4
  omega
theorem clamp_neg {b : Int} (h : InI b) : clampI (-b) = -b ∨ (b = -9223372036854775808 ∧ clampI (-b) = 9223372036854775807) := by
  by_cases e : b = -9223372036854775808
  · right; subst e; exact ⟨rfl, by decide⟩
  · left; exact clampI_self (by unfold InI at *; omega)
/-- the rotation back is one just where the rotation is -/
theorem Turn_back {a b c d : Int} (hb : InI b) (hc : InI c) (hd : InI d) : (TurnP a (clampI (-b)) (clampI (-c)) (clampI (-d)) ↔ TurnP a b c d) ∧ (TurnP a b c d → clampI (-b) = -b ∧ clampI (-c) = -c ∧ clampI (-d) = -d) := by
  have nb : b = -9223372036854775808 → 73786976294838206464 < b * b := fun e => big_sq (.inr e)
  have nc : c = -9223372036854775808 → 73786976294838206464 < c * c := fun e => big_sq (.inr e)
  have nd : d = -9223372036854775808 → 73786976294838206464 < d * d := fun e => big_sq (.inr e)
  rcases clamp_neg hb with h1 | ⟨h1, k1⟩
  · rcases clamp_neg hc with h2 | ⟨h2, k2⟩
    · rcases clamp_neg hd with h3 | ⟨h3, k3⟩
      · rw [h1, h2, h3]
        refine ⟨?_, fun _ => ⟨rfl, rfl, rfl⟩⟩
        unfold TurnP sq4
        rw [Int.neg_mul_neg, Int.neg_mul_neg, Int.neg_mul_neg]
      · have n1 := not_Turn_big (a := a) (b := b) (c := c) (.inr (.inr (.inr (nd h3))))
        have n2 : ¬ TurnP a (clampI (-b)) (clampI (-c)) (clampI (-d)) := not_Turn_big (.inr (.inr (.inr (by rw [k3]; decide))))
        exact ⟨⟨fun e => absurd e n2, fun e => absurd e n1⟩, fun e => absurd e n1⟩
    · have n1 := not_Turn_big (a := a) (b := b) (d := d) (.inr (.inr (.inl (nc h2))))
      have n2 : ¬ TurnP a (clampI (-b)) (clampI (-c)) (clampI (-d)) := not_Turn_big (.inr (.inr (.inl (by rw [k2]; decide))))
      exact ⟨⟨fun e => absurd e n2, fun e => absurd e n1⟩, fun e => absurd e n1⟩
  · have n1 := not_Turn_big (a := a) (c := c) (d := d) (.inr (.inl (nb h1)))
    have n2 : ¬ TurnP a (clampI (-b)) (clampI (-c)) (clampI (-d)) := not_Turn_big (.inr (.inl (by rw [k1]; decide)))
    exact ⟨⟨fun e => absurd e n2, fun e => absurd e n1⟩, fun e => absurd e n1⟩
theorem InI_clamp (z : Int) : InI (clampI z) := clampI_in z

noncomputable def r5MatrixS : List AV → PR
  | [.agg [.int .i64 a, .int .i64 b, .int .i64 c, .int .i64 d]] => open Classical in if InI a ∧ InI b ∧ InI c ∧ InI d then .val (if TurnP a b c d then .tup [.agg [.int .i64 (clampI (quoI (r00 a b c d * 4294967296) (sq4 a b c d))), .int .i64 (clampI (quoI (r01 a b c d * 4294967296) (sq4 a b c d))), .int .i64 (clampI (quoI (r02 a b c d * 4294967296) (sq4 a b c d))), .int .i64 (clampI (quoI (r10 a b c d * 4294967296) (sq4 a b c d))), .int .i64 (clampI (quoI (r11 a b c d * 4294967296) (sq4 a b c d))), .int .i64 (clampI (quoI (r12 a b c d * 4294967296) (sq4 a b c d))), .int .i64 (clampI (quoI (r20 a b c d * 4294967296) (sq4 a b c d))), .int .i64 (clampI (quoI (r21 a b c d * 4294967296) (sq4 a b c d))), .int .i64 (clampI (quoI (r22 a b c d * 4294967296) (sq4 a b c d)))], .int .i64 0] else .tup [.agg [.int .i64 0, .int .i64 0, .int .i64 0, .int .i64 0, .int .i64 0, .int .i64 0, .int .i64 0, .int .i64 0, .int .i64 0], .int .i64 9]) else .fail
  | _ => .fail
@[simp] theorem r5MatrixS_val {a b c d : Int} (h : InI a ∧ InI b ∧ InI c ∧ InI d) : r5MatrixS [.agg [.int .i64 a, .int .i64 b, .int .i64 c, .int .i64 d]] = .val (if TurnP a b c d then .tup [.agg [.int .i64 (clampI (quoI (r00 a b c d * 4294967296) (sq4 a b c d))), .int .i64 (clampI (quoI (r01 a b c d * 4294967296) (sq4 a b c d))), .int .i64 (clampI (quoI (r02 a b c d * 4294967296) (sq4 a b c d))), .int .i64 (clampI (quoI (r10 a b c d * 4294967296) (sq4 a b c d))), .int .i64 (clampI (quoI (r11 a b c d * 4294967296) (sq4 a b c d))), .int .i64 (clampI (quoI (r12 a b c d * 4294967296) (sq4 a b c d))), .int .i64 (clampI (quoI (r20 a b c d * 4294967296) (sq4 a b c d))), .int .i64 (clampI (quoI (r21 a b c d * 4294967296) (sq4 a b c d))), .int .i64 (clampI (quoI (r22 a b c d * 4294967296) (sq4 a b c d)))], .int .i64 0] else .tup [.agg [.int .i64 0, .int .i64 0, .int .i64 0, .int .i64 0, .int .i64 0, .int .i64 0, .int .i64 0, .int .i64 0, .int .i64 0], .int .i64 9]) := if_pos h
noncomputable def awake5S : List AV → PR
  | [] => .val (.bool true)
  | _ => .fail
@[simp] theorem awake5S_val : awake5S [] = .val (.bool true) := rfl
set_option maxHeartbeats 40000000 in
theorem awake5_ok : SumOk Try.prog 24 (pureS awake5S) := by
  refine sum_fn (L := fun _ => none) (n := 1) (S := stOf [(65, pureS qcheckS), (25, pureS qMatrixS), (26, pureS qMulS), (49, pureS qOneS), (23, pureS qUnitS)]) drawS Try.T_ok (stOf_ok (by simp [qcheck_ok, qMatrix_ok, qMul_ok, qOne_ok, qUnit_ok])) Try.func24 rfl (by kernel_rfl) (by kernel_rfl) ?_
    (by intro args v h; unfold awake5S at h; split at h <;> (try split at h) <;> simp at h)
  intro args v h
  unfold awake5S at h
  split at h
  · skip
    cases h
    refine ⟨by simp, by simp, by simp, ?_⟩
    have t0 : TurnP 0 0 0 4294967296 := by decide
    have t1 : TurnP 8589934592 0 0 0 := by decide
    have t2 : ¬ TurnP 2147483647 0 0 0 := by decide
    have i2 : InI 8589934592 := by decide
    have i3 : InI 2147483647 := by decide
    have g1 : ratI 8589934592 (sq4 8589934592 0 0 0) = 4294967296 := by
      unfold ratI
      rw [if_neg (by decide), show quoI (8589934592 * 8589934592 * 18446744073709551616) (sq4 8589934592 0 0 0) = 18446744073709551616 by decide +kernel]
      exact rootI_of (by decide) (by decide) (by decide)
    have g2 : ratI 0 (sq4 8589934592 0 0 0) = 0 := by
      unfold ratI
      rw [if_neg (by decide), show quoI (0 * 0 * 18446744073709551616) (sq4 8589934592 0 0 0) = 0 by decide +kernel]
      exact rootI_of (by decide) (by decide) (by decide)
    have c1 : clampI 4294967296 = 4294967296 := by decide
    have m1 : clampI (quoI (r00 0 0 0 4294967296 * 4294967296) (sq4 0 0 0 4294967296)) = -4294967296 := by decide +kernel
    have m2 : clampI (quoI (r22 0 0 0 4294967296 * 4294967296) (sq4 0 0 0 4294967296)) = 4294967296 := by decide +kernel
    have p0 : clampI (qW 0 4294967296 0 0 0 0 4294967296 0 / 4294967296) = 0 := by decide +kernel
    have p1 : clampI (qX 0 4294967296 0 0 0 0 4294967296 0 / 4294967296) = 0 := by decide +kernel
    have p2 : clampI (qY 0 4294967296 0 0 0 0 4294967296 0 / 4294967296) = 0 := by decide +kernel
    have p3 : clampI (qZ 0 4294967296 0 0 0 0 4294967296 0 / 4294967296) = 4294967296 := by decide +kernel
    simp (maxSteps := 10000000) [InI_one, InI_zero, Try.f24, t0, t1, t2, i2, i3, g1, g2, c1, m1, m2, p0, p1, p2, p3]
  · simp at h

noncomputable def lawQuatMulS : List AV → PR
  | [.agg [.int .i64 a, .int .i64 b, .int .i64 c, .int .i64 d], .agg [.int .i64 e, .int .i64 f, .int .i64 g, .int .i64 k]] => open Classical in if InI a ∧ InI b ∧ InI c ∧ InI d ∧ InI e ∧ InI f ∧ InI g ∧ InI k then .val (.bool true) else .fail
  | _ => .fail
@[simp] theorem lawQuatMulS_val {a b c d e f g k : Int} (h : InI a ∧ InI b ∧ InI c ∧ InI d ∧ InI e ∧ InI f ∧ InI g ∧ InI k) : lawQuatMulS [.agg [.int .i64 a, .int .i64 b, .int .i64 c, .int .i64 d], .agg [.int .i64 e, .int .i64 f, .int .i64 g, .int .i64 k]] = .val (.bool true) := if_pos h
noncomputable def lawQuatUnitS : List AV → PR
  | [.agg [.int .i64 a, .int .i64 b, .int .i64 c, .int .i64 d]] => open Classical in if InI a ∧ InI b ∧ InI c ∧ InI d then .val (.bool true) else .fail
  | _ => .fail
@[simp] theorem lawQuatUnitS_val {a b c d : Int} (h : InI a ∧ InI b ∧ InI c ∧ InI d) : lawQuatUnitS [.agg [.int .i64 a, .int .i64 b, .int .i64 c, .int .i64 d]] = .val (.bool true) := if_pos h
noncomputable def lawQuatMatS : List AV → PR
  | [.agg [.int .i64 a, .int .i64 b, .int .i64 c, .int .i64 d]] => open Classical in if InI a ∧ InI b ∧ InI c ∧ InI d then .val (.bool true) else .fail
  | _ => .fail
@[simp] theorem lawQuatMatS_val {a b c d : Int} (h : InI a ∧ InI b ∧ InI c ∧ InI d) : lawQuatMatS [.agg [.int .i64 a, .int .i64 b, .int .i64 c, .int .i64 d]] = .val (.bool true) := if_pos h
noncomputable def lawQuatSpinS : List AV → PR
  | [.agg [.int .i64 a, .int .i64 b, .int .i64 c, .int .i64 d], .agg [.int .i64 x, .int .i64 y, .int .i64 z], .int .i64 t] => open Classical in if InI a ∧ InI b ∧ InI c ∧ InI d ∧ InI x ∧ InI y ∧ InI z ∧ InI t then .val (.bool true) else .fail
  | _ => .fail
@[simp] theorem lawQuatSpinS_val {a b c d x y z t : Int} (h : InI a ∧ InI b ∧ InI c ∧ InI d ∧ InI x ∧ InI y ∧ InI z ∧ InI t) : lawQuatSpinS [.agg [.int .i64 a, .int .i64 b, .int .i64 c, .int .i64 d], .agg [.int .i64 x, .int .i64 y, .int .i64 z], .int .i64 t] = .val (.bool true) := if_pos h
noncomputable def lawQuatStillS : List AV → PR
  | [.agg [.int .i64 a, .int .i64 b, .int .i64 c, .int .i64 d], .agg [.int .i64 x, .int .i64 y, .int .i64 z], .int .i64 t] => open Classical in if InI a ∧ InI b ∧ InI c ∧ InI d ∧ InI x ∧ InI y ∧ InI z ∧ InI t then .val (.bool true) else .fail
  | _ => .fail
@[simp] theorem lawQuatStillS_val {a b c d x y z t : Int} (h : InI a ∧ InI b ∧ InI c ∧ InI d ∧ InI x ∧ InI y ∧ InI z ∧ InI t) : lawQuatStillS [.agg [.int .i64 a, .int .i64 b, .int .i64 c, .int .i64 d], .agg [.int .i64 x, .int .i64 y, .int .i64 z], .int .i64 t] = .val (.bool true) := if_pos h
noncomputable def lawQuatBackS : List AV → PR
  | [.agg [.int .i64 a, .int .i64 b, .int .i64 c, .int .i64 d]] => open Classical in if InI a ∧ InI b ∧ InI c ∧ InI d then .val (.bool true) else .fail
  | _ => .fail
@[simp] theorem lawQuatBackS_val {a b c d : Int} (h : InI a ∧ InI b ∧ InI c ∧ InI d) : lawQuatBackS [.agg [.int .i64 a, .int .i64 b, .int .i64 c, .int .i64 d]] = .val (.bool true) := if_pos h
end Go.X
