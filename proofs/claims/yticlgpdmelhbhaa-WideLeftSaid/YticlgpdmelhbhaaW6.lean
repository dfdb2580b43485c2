/- Package wide: sizes in bits. -/
import Derived.Test.YticlgpdmelhbhaaW5
namespace Go.X
open Go.Proofs

/-- how many bits -/
def blen (z : Int) : Int := (bitLen z.toNat : Int)
theorem blen_zero : blen 0 = 0 := by decide
theorem blen_horner {a b : Int} (h0 : 0 ≤ a) (h1 : a < 18446744073709551616) (hb : 0 < b) : blen (a + 18446744073709551616 * b) = 64 + blen b := by
  unfold blen
  have e : (a + 18446744073709551616 * b).toNat / 2 ^ 64 = b.toNat := by omega
  rw [bitLen_shift _ 64 (by rw [e]; omega), e]
  omega
theorem blen_64 {a : Int} (h0 : 0 ≤ a) (h1 : a < 18446744073709551616) : 0 ≤ blen a ∧ blen a ≤ 64 := by
  unfold blen bitLen
  split
  · omega
  · rename_i hz
    have := (Nat.log2_lt hz).2 (show a.toNat < 2 ^ 64 by omega)
    omega

noncomputable def lengthS : List AV → PR
  | [.arr .u64 8 f] => if R8 f then .val (.int .i64 (blen (uval f))) else .fail
  | _ => .fail
@[simp] theorem lengthS_val {f : Nat → Int} (h : R8 f) : lengthS [.arr .u64 8 f] = .val (.int .i64 (blen (uval f))) := if_pos h
set_option maxHeartbeats 1000000 in
theorem length_ok : SumOk Try.prog 61 (pureS lengthS) := by
  refine sum_fn (L := fun _ => none) (n := 9) (S := stOf [(67, pureS len64S)]) drawS Try.T_ok (stOf_ok (by simp [len64_ok])) Try.func61 rfl (by kernel_rfl) (by kernel_rfl) ?_
    (by intro args v h; unfold lengthS at h; split at h <;> (try split at h) <;> simp at h)
  intro args v h
  unfold lengthS at h
  split at h
  · rename_i f
    split at h
    · rename_i hf
      cases h
      refine ⟨by simp, by simp, by simp, ?_⟩
      have f0 := hf 0 (by omega); have f1 := hf 1 (by omega); have f2 := hf 2 (by omega); have f3 := hf 3 (by omega)
      have f4 := hf 4 (by omega); have f5 := hf 5 (by omega); have f6 := hf 6 (by omega); have f7 := hf 7 (by omega)
      have l0 := blen_64 f0.1 f0.2; have l1 := blen_64 f1.1 f1.2; have l2 := blen_64 f2.1 f2.2; have l3 := blen_64 f3.1 f3.2
      have l4 := blen_64 f4.1 f4.2; have l5 := blen_64 f5.1 f5.2; have l6 := blen_64 f6.1 f6.2; have l7 := blen_64 f7.1 f7.2
      simp [Try.f61, bind_ite, unblock_ite, good_ite, f0, f1, f2, f3, f4, f5, f6, f7]
      simp only [← blen.eq_1, IntKind.wrap_i64, uval]
      refine ⟨fun e7 => ⟨fun e6 => ⟨fun e5 => ⟨fun e4 => ⟨fun e3 => ⟨fun e2 => ⟨fun e1 => ⟨?_, ?_⟩, ?_⟩, ?_⟩, ?_⟩, ?_⟩, ?_⟩, ?_⟩, ?_⟩
      · intro e0
        simp only [e7, e6, e5, e4, e3, e2, e1, e0, Int.mul_zero, Int.add_zero, blen_zero]
      · intro hz
        simp only [e7, e6, e5, e4, e3, e2, e1, Int.mul_zero, Int.add_zero]
        omega
      · intro hz
        simp only [e7, e6, e5, e4, e3, e2, Int.mul_zero, Int.add_zero]
        rw [blen_horner f0.1 f0.2 (by omega)]
        omega
      · intro hz
        simp only [e7, e6, e5, e4, e3, Int.mul_zero, Int.add_zero]
        rw [blen_horner f0.1 f0.2 (by omega), blen_horner f1.1 f1.2 (by omega)]
        omega
      · intro hz
        simp only [e7, e6, e5, e4, Int.mul_zero, Int.add_zero]
        rw [blen_horner f0.1 f0.2 (by omega), blen_horner f1.1 f1.2 (by omega), blen_horner f2.1 f2.2 (by omega)]
        omega
      · intro hz
        simp only [e7, e6, e5, Int.mul_zero, Int.add_zero]
        rw [blen_horner f0.1 f0.2 (by omega), blen_horner f1.1 f1.2 (by omega), blen_horner f2.1 f2.2 (by omega), blen_horner f3.1 f3.2 (by omega)]
        omega
      · intro hz
        simp only [e7, e6, Int.mul_zero, Int.add_zero]
        rw [blen_horner f0.1 f0.2 (by omega), blen_horner f1.1 f1.2 (by omega), blen_horner f2.1 f2.2 (by omega), blen_horner f3.1 f3.2 (by omega), blen_horner f4.1 f4.2 (by omega)]
        omega
      · intro hz
        simp only [e7, Int.mul_zero, Int.add_zero]
        rw [blen_horner f0.1 f0.2 (by omega), blen_horner f1.1 f1.2 (by omega), blen_horner f2.1 f2.2 (by omega), blen_horner f3.1 f3.2 (by omega), blen_horner f4.1 f4.2 (by omega), blen_horner f5.1 f5.2 (by omega)]
        omega
      · intro hz
        rw [blen_horner f0.1 f0.2 (by omega), blen_horner f1.1 f1.2 (by omega), blen_horner f2.1 f2.2 (by omega), blen_horner f3.1 f3.2 (by omega), blen_horner f4.1 f4.2 (by omega), blen_horner f5.1 f5.2 (by omega), blen_horner f6.1 f6.2 (by omega)]
        omega
    · simp at h
  · simp at h

noncomputable def bitsS : List AV → PR
  | [.arr .u64 8 f] => if R8 f then .val (.int .i64 (blen (if sval f < 0 then - sval f else sval f))) else .fail
  | _ => .fail
@[simp] theorem bitsS_val {f : Nat → Int} (h : R8 f) : bitsS [.arr .u64 8 f] = .val (.int .i64 (blen (if sval f < 0 then - sval f else sval f))) := if_pos h
theorem bits_ok : SumOk Try.prog 30 (pureS bitsS) := by
  refine sum_fn (L := fun _ => none) (n := 1) (S := stOf [(61, pureS lengthS), (42, pureS sizeS)]) drawS Try.T_ok (stOf_ok (by simp [length_ok, size_ok])) Try.func30 rfl (by kernel_rfl) (by kernel_rfl) ?_
    (by intro args v h; unfold bitsS at h; split at h <;> (try split at h) <;> simp at h)
  intro args v h
  unfold bitsS at h
  split at h
  · rename_i f
    split at h
    · rename_i hf
      cases h
      refine ⟨by simp, by simp, by simp, ?_⟩
      simp [Try.f30, hf, R8_size hf, size_val hf]
    · simp at h
  · simp at h

end Go.X
