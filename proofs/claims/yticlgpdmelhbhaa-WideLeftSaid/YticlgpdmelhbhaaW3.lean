/- Package wide: sums of limbs. -/
import Derived.Test.YticlgpdmelhbhaaW2
namespace Go.X
open Go.Proofs

/-- limbs within 64 bits -/
def R8 (f : Nat → Int) : Prop := ∀ i, i < 8 → 0 ≤ f i ∧ f i < 18446744073709551616
noncomputable instance (f : Nat → Int) : Decidable (R8 f) := Classical.propDecidable _

theorem eqv_arr {k : IntKind} {n : Nat} {f g : Nat → Int} (h : ∀ i, i < n → f i = g i) : Eqv (.arr k n f) (.arr k n g) := by
  intro ρ
  simp only [conc, arrCells]
  congr 2
  apply List.map_congr_left
  intro i hi
  rw [h i (by simpa using hi)]

theorem eight {i : Nat} (h : i < 8) : i = 0 ∨ i = 1 ∨ i = 2 ∨ i = 3 ∨ i = 4 ∨ i = 5 ∨ i = 6 ∨ i = 7 := by omega

def cyF (f g : Nat → Int) (c : Int) : Nat → Int
  | 0 => c
  | i + 1 => (f i + g i + cyF f g c i) / 18446744073709551616
def plusF (f g : Nat → Int) (c : Int) (i : Nat) : Int := (f i + g i + cyF f g c i) % 18446744073709551616
theorem cy_bound {f g : Nat → Int} {c : Int} (hf : R8 f) (hg : R8 g) (h0 : 0 ≤ c) (h1 : c ≤ 1) : ∀ i, i ≤ 8 → 0 ≤ cyF f g c i ∧ cyF f g c i ≤ 1
  | 0, _ => ⟨h0, h1⟩
  | i + 1, hi => by
    have := cy_bound hf hg h0 h1 i (by omega)
    have := hf i (by omega)
    have := hg i (by omega)
    simp only [cyF]
    omega

noncomputable def plusS : List AV → PR
  | [.arr .u64 8 f, .arr .u64 8 g, .int .u64 c] => if R8 f ∧ R8 g ∧ 0 ≤ c ∧ c ≤ 1 then .val (.arr .u64 8 (plusF f g c)) else .fail
  | _ => .fail
@[simp] theorem plusS_val {f : Nat → Int} {g : Nat → Int} {c : Int} (h : R8 f ∧ R8 g ∧ 0 ≤ c ∧ c ≤ 1) : plusS [.arr .u64 8 f, .arr .u64 8 g, .int .u64 c] = .val (.arr .u64 8 (plusF f g c)) := if_pos h

set_option maxHeartbeats 2000000 in
theorem plus_ok : SumOk Try.prog 54 (pureS plusS) := by
  refine sum_fn (L := fun i => if i = 5 then some (.flo 8 0) else none) (n := 9) (S := stOf [(66, adderS), (68, adder1S)]) drawS Try.T_ok (stOf_ok (by simp [adder_ok, adder1_ok])) Try.func54 rfl (by kernel_rfl) (by kernel_rfl) ?_
    (by intro args v h; unfold plusS at h; split at h <;> (try split at h) <;> simp at h)
  intro args v h
  unfold plusS at h
  split at h
  · rename_i f g c
    split at h
    · rename_i hc
      obtain ⟨hf, hg, h0, h1⟩ := hc
      cases h
      refine ⟨by simp, by simp, by simp, ?_⟩
      have f0 := hf 0 (by omega); have f1 := hf 1 (by omega); have f2 := hf 2 (by omega); have f3 := hf 3 (by omega)
      have f4 := hf 4 (by omega); have f5 := hf 5 (by omega); have f6 := hf 6 (by omega); have f7 := hf 7 (by omega)
      have g0 := hg 0 (by omega); have g1 := hg 1 (by omega); have g2 := hg 2 (by omega); have g3 := hg 3 (by omega)
      have g4 := hg 4 (by omega); have g5 := hg 5 (by omega); have g6 := hg 6 (by omega); have g7 := hg 7 (by omega)
      have cb := fun i hi => cy_bound hf hg h0 h1 i hi
      have c1 := cb 1 (by omega); have c2 := cb 2 (by omega); have c3 := cb 3 (by omega); have c4 := cb 4 (by omega)
      have c5 := cb 5 (by omega); have c6 := cb 6 (by omega); have c7 := cb 7 (by omega)
      simp only [cyF] at c1 c2 c3 c4 c5 c6 c7
      simp [Try.f54, adderS, adder1S, upd, f0, f1, f2, f3, f4, f5, f6, f7, g0, g1, g2, g3, g4, g5, g6, g7, h0, h1, c1, c2, c3, c4, c5, c6, c7]
      refine eqv_arr fun i hi => ?_
      rcases eight hi with rfl | rfl | rfl | rfl | rfl | rfl | rfl | rfl <;> simp [upd, plusF, cyF]
    · simp at h
  · simp at h

end Go.X
