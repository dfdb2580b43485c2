/- Package wide: signs, bits turned, sizes. -/
import Derived.Test.YticlgpdmelhbhaaW3
namespace Go.X
open Go.Proofs

theorem R8_plus (f g : Nat → Int) (c : Int) : R8 (plusF f g c) := fun i _ => by unfold plusF; omega
theorem R8_zero : R8 fun _ => 0 := fun i _ => ⟨by simp, by simp⟩

def negF (f : Nat → Int) : Bool := decide (9223372036854775808 ≤ f 7)
theorem shr63 {a : Int} (h0 : 0 ≤ a) (h1 : a < 18446744073709551616) : (shrA .u64 a 63 == 1) = decide (9223372036854775808 ≤ a) := by
  have e : shrA .u64 a 63 = a / 9223372036854775808 := by
    simp only [shrA, IntKind.bits]
    rw [Int.fdiv_eq_ediv_of_nonneg _ (by decide)]
    rfl
  rw [e, Bool.eq_iff_iff]
  simp only [beq_iff_eq, decide_eq_true_eq]
  omega

noncomputable def negS : List AV → PR
  | [.arr .u64 8 f] => if R8 f then .val (.bool (negF f)) else .fail
  | _ => .fail
@[simp] theorem negS_val {f : Nat → Int} (h : R8 f) : negS [.arr .u64 8 f] = .val (.bool (negF f)) := if_pos h
theorem negative_ok : SumOk Try.prog 46 (pureS negS) := by
  refine sum_fn (L := fun _ => none) (n := 1) (S := stOf []) drawS Try.T_ok (stOf_ok (by simp)) Try.func46 rfl (by kernel_rfl) (by kernel_rfl) ?_
    (by intro args v h; unfold negS at h; split at h <;> (try split at h) <;> simp at h)
  intro args v h
  unfold negS at h
  split at h
  · rename_i f
    split at h
    · rename_i hf
      cases h
      refine ⟨by simp, by simp, by simp, ?_⟩
      have f7 := hf 7 (by omega)
      simp [Try.f46, shr63 f7.1 f7.2]
      exact Eqv.refl _
    · simp at h
  · simp at h

/-- bits turned -/
def notF (f : Nat → Int) (i : Nat) : Int := 18446744073709551615 - f i
theorem R8_not {f : Nat → Int} (h : R8 f) : R8 (notF f) := fun i hi => by have := h i hi; unfold notF; omega
theorem xor_max {a : Int} (h0 : 0 ≤ a) (h1 : a < 18446744073709551616) : bitsA .xor .u64 18446744073709551615 a = 18446744073709551615 - a := by
  obtain ⟨n, rfl⟩ := Int.eq_ofNat_of_zero_le h0
  have hn : n < 2 ^ 64 := by omega
  have e : (BitVec.ofInt 64 18446744073709551615 ^^^ BitVec.ofInt 64 (n : Int)) = ~~~ (BitVec.ofNat 64 n) := by
    rw [BitVec.ofInt_natCast, show BitVec.ofInt 64 18446744073709551615 = BitVec.allOnes 64 from by decide, BitVec.allOnes_xor]
  have e2 : (~~~ (BitVec.ofNat 64 n)).toNat = 18446744073709551615 - n := by
    rw [BitVec.toNat_not, BitVec.toNat_ofNat, Nat.mod_eq_of_lt hn]
  show IntKind.u64.wrap ((BitVec.ofInt 64 18446744073709551615 ^^^ BitVec.ofInt 64 (n : Int)).toNat : Int) = _
  rw [e, e2, wrap_u64_mod]
  omega

noncomputable def notS : List AV → PR
  | [.arr .u64 8 f] => if R8 f then .val (.arr .u64 8 (notF f)) else .fail
  | _ => .fail
@[simp] theorem notS_val {f : Nat → Int} (h : R8 f) : notS [.arr .u64 8 f] = .val (.arr .u64 8 (notF f)) := if_pos h
theorem u64_max : IntKind.u64.max = 18446744073709551615 := by decide
theorem not_ok : SumOk Try.prog 55 (pureS notS) := by
  refine sum_fn (L := fun _ => none) (n := 9) (S := stOf []) drawS Try.T_ok (stOf_ok (by simp)) Try.func55 rfl (by kernel_rfl) (by kernel_rfl) ?_
    (by intro args v h; unfold notS at h; split at h <;> (try split at h) <;> simp at h)
  intro args v h
  unfold notS at h
  split at h
  · rename_i f
    split at h
    · rename_i hf
      cases h
      refine ⟨by simp, by simp, by simp, ?_⟩
      have f0 := hf 0 (by omega); have f1 := hf 1 (by omega); have f2 := hf 2 (by omega); have f3 := hf 3 (by omega)
      have f4 := hf 4 (by omega); have f5 := hf 5 (by omega); have f6 := hf 6 (by omega); have f7 := hf 7 (by omega)
      simp [Try.f55, upd, IntKind.signed, u64_max, xor_max f0.1 f0.2, xor_max f1.1 f1.2, xor_max f2.1 f2.2, xor_max f3.1 f3.2, xor_max f4.1 f4.2, xor_max f5.1 f5.2, xor_max f6.1 f6.2, xor_max f7.1 f7.2]
      refine eqv_arr fun i hi => ?_
      rcases eight hi with rfl | rfl | rfl | rfl | rfl | rfl | rfl | rfl <;> simp [upd, notF]
    · simp at h
  · simp at h

/-- 0 less it, modulo 2^512 -/
def minusF (f : Nat → Int) : Nat → Int := plusF (notF f) (fun _ => 0) 1
noncomputable def minusS : List AV → PR
  | [.arr .u64 8 f] => if R8 f then .val (.arr .u64 8 (minusF f)) else .fail
  | _ => .fail
@[simp] theorem minusS_val {f : Nat → Int} (h : R8 f) : minusS [.arr .u64 8 f] = .val (.arr .u64 8 (minusF f)) := if_pos h
theorem minus_ok : SumOk Try.prog 63 (pureS minusS) := by
  refine sum_fn (L := fun _ => none) (n := 1) (S := stOf [(55, pureS notS), (54, pureS plusS)]) drawS Try.T_ok (stOf_ok (by simp [not_ok, plus_ok])) Try.func63 rfl (by kernel_rfl) (by kernel_rfl) ?_
    (by intro args v h; unfold minusS at h; split at h <;> (try split at h) <;> simp at h)
  intro args v h
  unfold minusS at h
  split at h
  · rename_i f
    split at h
    · rename_i hf
      cases h
      refine ⟨by simp, by simp, by simp, ?_⟩
      simp [Try.f63, hf, R8_not hf, R8_zero]
      exact Eqv.refl _
    · simp at h
  · simp at h

def sizeF (f : Nat → Int) : Nat → Int := if negF f = true then minusF f else f
theorem R8_minus (f : Nat → Int) : R8 (minusF f) := R8_plus _ _ _
theorem R8_size {f : Nat → Int} (h : R8 f) : R8 (sizeF f) := by
  unfold sizeF
  split
  · exact R8_minus f
  · exact h
noncomputable def sizeS : List AV → PR
  | [.arr .u64 8 f] => if R8 f then .val (.arr .u64 8 (sizeF f)) else .fail
  | _ => .fail
@[simp] theorem sizeS_val {f : Nat → Int} (h : R8 f) : sizeS [.arr .u64 8 f] = .val (.arr .u64 8 (sizeF f)) := if_pos h
theorem size_ok : SumOk Try.prog 42 (pureS sizeS) := by
  refine sum_fn (L := fun _ => none) (n := 1) (S := stOf [(46, pureS negS), (63, pureS minusS)]) drawS Try.T_ok (stOf_ok (by simp [negative_ok, minus_ok])) Try.func42 rfl (by kernel_rfl) (by kernel_rfl) ?_
    (by intro args v h; unfold sizeS at h; split at h <;> (try split at h) <;> simp at h)
  intro args v h
  unfold sizeS at h
  split at h
  · rename_i f
    split at h
    · rename_i hf
      cases h
      refine ⟨by simp, by simp, by simp, ?_⟩
      by_cases hn : negF f = true
      · simp [Try.f42, hf, hn, sizeF]
        exact Eqv.refl _
      · simp [Try.f42, hf, hn, sizeF]
        exact Eqv.refl _
    · simp at h
  · simp at h

end Go.X
