/- Package wide: small numbers, signs, order, sums. -/
import Derived.Test.YticlgpdmelhbhaaZ2
namespace Go.X
open Go.Proofs
attribute [simp] Try.T_53
attribute [local irreducible] Good

theorem wrap_i64_u64 {n : Int} : IntKind.i64.wrap (n % 18446744073709551616) = IntKind.i64.wrap n := by simp only [IntKind.wrap_i64]; omega

def ofS : List AV → PR
  | [.int .i64 n] => if -9223372036854775808 ≤ n ∧ n < 9223372036854775808 then .val (W n) else .fail
  | _ => .fail
@[simp] theorem ofS_val {n : Int} (h : -9223372036854775808 ≤ n ∧ n < 9223372036854775808) : ofS [.int .i64 n] = .val (W n) := if_pos h
theorem of_ok : SumOk Try.prog 25 (pureS ofS) := by
  refine sum_fn (L := fun _ => none) (n := 9) (S := stOf []) drawS Try.T_ok (stOf_ok (by simp)) Try.func25 rfl (by kernel_rfl) (by kernel_rfl) ?_
    (by intro args v h; unfold ofS at h; split at h <;> (try split at h) <;> simp at h)
  intro args v h
  unfold ofS at h
  split at h
  · rename_i n
    split at h
    · rename_i hn
      cases h
      refine ⟨by simp, by simp, by simp, ?_⟩
      have e : shrA .i64 n 63 = if n < 0 then -1 else 0 := by
        simp only [shrA, IntKind.bits]
        rw [Int.fdiv_eq_ediv_of_nonneg _ (by decide)]
        show n / 9223372036854775808 = _
        split <;> omega
      have s := limb_small hn.1 hn.2
      simp [Try.f25, e, wrap_u64_mod]
      refine eqv_arr fun i hi => ?_
      rcases eight hi with rfl | rfl | rfl | rfl | rfl | rfl | rfl | rfl
      · simp [upd, limb]
      all_goals (simp [upd, s]; split <;> simp)
    · simp at h
  · simp at h

/-- within 64 bits -/
def InI (z : Int) : Prop := -9223372036854775808 ≤ z ∧ z < 9223372036854775808
instance (z : Int) : Decidable (InI z) := inferInstanceAs (Decidable (_ ∧ _))
theorem InI.w {z : Int} (h : InI z) : InW z := by unfold InW K5; unfold InI at h; omega

noncomputable def intS : List AV → PR
  | [.arr .u64 8 f] => if R8 f then .val (.tup [.int .i64 (if InI (sval f) then sval f else 0), .bool (decide (InI (sval f)))]) else .fail
  | _ => .fail
@[simp] theorem intS_val {f : Nat → Int} (h : R8 f) : intS [.arr .u64 8 f] = .val (.tup [.int .i64 (if InI (sval f) then sval f else 0), .bool (decide (InI (sval f)))]) := if_pos h
theorem int_ok : SumOk Try.prog 23 (pureS intS) := by
  refine sum_fn (L := fun _ => none) (n := 1) (S := stOf [(25, pureS ofS)]) drawS Try.T_ok (stOf_ok (by simp [of_ok])) Try.func23 rfl (by kernel_rfl) (by kernel_rfl) ?_
    (by intro args v h; unfold intS at h; split at h <;> (try split at h) <;> simp at h)
  intro args v h
  unfold intS at h
  split at h
  · rename_i f
    split at h
    · rename_i hf
      cases h
      refine ⟨by simp, by simp, by simp, ?_⟩
      have f0 := hf 0 (by omega)
      have hb : -9223372036854775808 ≤ IntKind.i64.wrap (f 0) ∧ IntKind.i64.wrap (f 0) < 9223372036854775808 := by simp only [IntKind.wrap_i64]; omega
      have hz : sval (limb (IntKind.i64.wrap (f 0))) = IntKind.i64.wrap (f 0) := sval_limb (InI.w hb)
      have e0 : f 0 = sval f % 18446744073709551616 := limb_sval hf 0 (by omega)
      have ho : ofS [.int .i64 (IntKind.i64.wrap (f 0))] = .val (W (IntKind.i64.wrap (f 0))) := by simp [ofS, hb]
      have hq := eqArr_iff (R8_limb (IntKind.i64.wrap (f 0))) hf
      rw [hz] at hq
      by_cases hc : IntKind.i64.wrap (f 0) = sval f
      · have hi : InI (sval f) := by rw [← hc]; exact hb
        have hq : eqArr 8 (limb (IntKind.i64.wrap (f 0))) f = true := by simpa [hc] using hq
        simp [Try.f23, ho, hq, hi]
        rw [hc]; exact Eqv.refl _
      · have hi : ¬ InI (sval f) := by
          intro hi
          apply hc
          unfold InI at hi
          rw [e0, wrap_i64_u64, wrap_i64_in hi.1 hi.2]
        have hq : eqArr 8 (limb (IntKind.i64.wrap (f 0))) f = false := by simpa [hc] using hq
        simp [Try.f23, ho, hq, hi]
        exact Eqv.refl _
    · simp at h
  · simp at h

def sgnI (z : Int) : Int := if z < 0 then -1 else if z = 0 then 0 else 1
noncomputable def signS : List AV → PR
  | [.arr .u64 8 f] => if R8 f then .val (.int .i64 (sgnI (sval f))) else .fail
  | _ => .fail
@[simp] theorem signS_val {f : Nat → Int} (h : R8 f) : signS [.arr .u64 8 f] = .val (.int .i64 (sgnI (sval f))) := if_pos h
theorem sign_ok : SumOk Try.prog 26 (pureS signS) := by
  refine sum_fn (L := fun _ => none) (n := 1) (S := stOf [(46, pureS negS)]) drawS Try.T_ok (stOf_ok (by simp [negative_ok])) Try.func26 rfl (by kernel_rfl) (by kernel_rfl) ?_
    (by intro args v h; unfold signS at h; split at h <;> (try split at h) <;> simp at h)
  intro args v h
  unfold signS at h
  split at h
  · rename_i f
    split at h
    · rename_i hf
      cases h
      refine ⟨by simp, by simp, by simp, ?_⟩
      by_cases hn : sval f < 0
      · simp [Try.f26, hf, neg_sval hf, hn, sgnI]
      · by_cases hz : sval f = 0
        · simp [Try.f26, hf, neg_sval hf, hz, sgnI, eqArr_iff hf R8_zero, sval_zero]
        · simp [Try.f26, hf, neg_sval hf, hn, hz, sgnI, eqArr_iff hf R8_zero, sval_zero]
    · simp at h
  · simp at h

end Go.X
