/- Numbers of eight limbs: what they are worth. Plain arithmetic. -/
import Derived.Test.YticlgpdmelhbhaaZ0
namespace Go.X

/-- 2^511 -/
def K5 : Int := 6703903964971298549787012499102923063739682910296196688861780721860882015036773488400937149083451713845015929093243025426876941405973284973216824503042048
/-- what eight limbs are worth, without a sign -/
def uval (f : Nat → Int) : Int := f 0 + 18446744073709551616 * (f 1 + 18446744073709551616 * (f 2 + 18446744073709551616 * (f 3 + 18446744073709551616 * (f 4 + 18446744073709551616 * (f 5 + 18446744073709551616 * (f 6 + 18446744073709551616 * f 7))))))
def sval (f : Nat → Int) : Int := if negF f = true then uval f - 2 * K5 else uval f
def limb (z : Int) : Nat → Int
  | 0 => z % 18446744073709551616
  | i + 1 => limb (z / 18446744073709551616) i
abbrev W (z : Int) : AV := .arr .u64 8 (limb z)
def InW (z : Int) : Prop := -K5 ≤ z ∧ z < K5
instance (z : Int) : Decidable (InW z) := inferInstanceAs (Decidable (_ ∧ _))

theorem K5_pos : 0 < K5 := by unfold K5; omega
theorem limb_range : ∀ (i : Nat) (z : Int), 0 ≤ limb z i ∧ limb z i < 18446744073709551616
  | 0, z => by simp only [limb]; omega
  | i + 1, z => limb_range i _
theorem R8_limb (z : Int) : R8 (limb z) := fun i _ => limb_range i z

theorem uval_bound {f : Nat → Int} (h : R8 f) : 0 ≤ uval f ∧ uval f < 2 * K5 ∧ (negF f = true ↔ K5 ≤ uval f) := by
  have f0 := h 0 (by omega); have f1 := h 1 (by omega); have f2 := h 2 (by omega); have f3 := h 3 (by omega)
  have f4 := h 4 (by omega); have f5 := h 5 (by omega); have f6 := h 6 (by omega); have f7 := h 7 (by omega)
  simp only [uval, K5, negF, decide_eq_true_eq]
  refine ⟨by omega, by omega, by omega, by omega⟩

theorem sval_bound {f : Nat → Int} (h : R8 f) : InW (sval f) ∧ (negF f = true ↔ sval f < 0) := by
  obtain ⟨h1, h2, h3⟩ := uval_bound h
  have hK := K5_pos
  unfold InW sval
  by_cases hn : negF f = true
  · have := h3.1 hn
    simp only [hn, if_true, true_iff]
    refine ⟨⟨?_, ?_⟩, ?_⟩ <;> omega
  · have : ¬ K5 ≤ uval f := fun e => hn (h3.2 e)
    simp only [hn, Bool.false_eq_true, if_false]
    refine ⟨⟨?_, ?_⟩, ?_⟩
    · omega
    · omega
    · constructor
      · intro e; exact absurd e (by simp)
      · intro e; omega

theorem plus_val {f g : Nat → Int} {c : Int} : uval (plusF f g c) + 2 * K5 * cyF f g c 8 = uval f + uval g + c := by
  have e : ∀ i, plusF f g c i + 18446744073709551616 * cyF f g c (i + 1) = f i + g i + cyF f g c i := by
    intro i
    simp only [plusF, cyF]
    omega
  have e0 := e 0; have e1 := e 1; have e2 := e 2; have e3 := e 3; have e4 := e 4; have e5 := e 5; have e6 := e 6; have e7 := e 7
  simp only [Nat.reduceAdd] at e0 e1 e2 e3 e4 e5 e6 e7
  have ec : cyF f g c 0 = c := rfl
  rw [ec] at e0
  simp only [uval, K5]
  generalize cyF f g c 1 = c1 at *; generalize cyF f g c 2 = c2 at *; generalize cyF f g c 3 = c3 at *; generalize cyF f g c 4 = c4 at *
  generalize cyF f g c 5 = c5 at *; generalize cyF f g c 6 = c6 at *; generalize cyF f g c 7 = c7 at *; generalize cyF f g c 8 = c8 at *
  omega

theorem limb_uval {f : Nat → Int} (h : R8 f) : ∀ i, i < 8 → limb (uval f) i = f i := by
  have f0 := h 0 (by omega); have f1 := h 1 (by omega); have f2 := h 2 (by omega); have f3 := h 3 (by omega)
  have f4 := h 4 (by omega); have f5 := h 5 (by omega); have f6 := h 6 (by omega); have f7 := h 7 (by omega)
  have m : ∀ a b : Int, 0 ≤ a → a < 18446744073709551616 → (a + 18446744073709551616 * b) % 18446744073709551616 = a ∧ (a + 18446744073709551616 * b) / 18446744073709551616 = b := fun a b _ _ => by omega
  intro i hi
  have f7' : f 7 % 18446744073709551616 = f 7 := by omega
  rcases eight hi with rfl | rfl | rfl | rfl | rfl | rfl | rfl | rfl <;> simp only [limb, uval, m _ _ f0.1 f0.2, m _ _ f1.1 f1.2, m _ _ f2.1 f2.2, m _ _ f3.1 f3.2, m _ _ f4.1 f4.2, m _ _ f5.1 f5.2, m _ _ f6.1 f6.2, f7']

theorem limb_shift (z k : Int) : ∀ i, i < 8 → limb (z + 2 * K5 * k) i = limb z i := by
  have m : ∀ a b : Int, (a + 18446744073709551616 * b) % 18446744073709551616 = a % 18446744073709551616 ∧ (a + 18446744073709551616 * b) / 18446744073709551616 = a / 18446744073709551616 + b := fun a b => by omega
  have e : z + 2 * K5 * k = z + 18446744073709551616 * (18446744073709551616 * (18446744073709551616 * (18446744073709551616 * (18446744073709551616 * (18446744073709551616 * (18446744073709551616 * (18446744073709551616 * k))))))) := by unfold K5; omega
  intro i hi
  rw [e]
  rcases eight hi with rfl | rfl | rfl | rfl | rfl | rfl | rfl | rfl <;> simp only [limb, m]

/-- limbs are told by what they are worth -/
theorem limb_of {f : Nat → Int} (h : R8 f) {z k : Int} (hz : uval f = z + 2 * K5 * k) : ∀ i, i < 8 → f i = limb z i := by
  intro i hi
  rw [← limb_uval h i hi, hz, limb_shift z k i hi]

theorem uval_limb (z : Int) : uval (limb z) = z % (2 * K5) := by
  have h := uval_bound (R8_limb z)
  have e : ∃ q, z = uval (limb z) + 2 * K5 * q := by
    refine ⟨z / 18446744073709551616 / 18446744073709551616 / 18446744073709551616 / 18446744073709551616 / 18446744073709551616 / 18446744073709551616 / 18446744073709551616 / 18446744073709551616, ?_⟩
    have m : ∀ a : Int, a = a % 18446744073709551616 + 18446744073709551616 * (a / 18446744073709551616) := fun a => by omega
    simp only [uval, limb, K5]
    generalize h1 : z / 18446744073709551616 = z1
    generalize h2 : z1 / 18446744073709551616 = z2
    generalize h3 : z2 / 18446744073709551616 = z3
    generalize h4 : z3 / 18446744073709551616 = z4
    generalize h5 : z4 / 18446744073709551616 = z5
    generalize h6 : z5 / 18446744073709551616 = z6
    generalize h7 : z6 / 18446744073709551616 = z7
    generalize h8 : z7 / 18446744073709551616 = z8
    omega
  obtain ⟨q, hq⟩ := e
  generalize uval (limb z) = u at *
  subst hq
  rw [Int.add_mul_emod_self_left, Int.emod_eq_of_lt h.1 h.2.1]

theorem sval_limb {z : Int} (h : InW z) : sval (limb z) = z := by
  have hb := uval_bound (R8_limb z)
  rw [uval_limb] at hb
  unfold sval
  rw [uval_limb]
  obtain ⟨h1, h2⟩ := h
  have hK := K5_pos
  have e : z % (2 * K5) = if 0 ≤ z then z else z + 2 * K5 := by
    split
    · exact Int.emod_eq_of_lt (by omega) (by omega)
    · rw [← Int.add_emod_right, Int.emod_eq_of_lt (by omega) (by omega)]
  rw [e] at hb ⊢
  by_cases hz : 0 ≤ z
  · simp only [hz, if_true] at hb ⊢
    rw [if_neg]
    intro hn
    have := hb.2.2.1 hn
    omega
  · simp only [hz, if_false] at hb ⊢
    rw [if_pos]
    · omega
    · exact hb.2.2.2 (by omega)

theorem sval_uval (f : Nat → Int) : ∃ k, uval f = sval f + 2 * K5 * k := by
  unfold sval
  split
  · exact ⟨1, by omega⟩
  · exact ⟨0, by omega⟩

theorem limb_sval {f : Nat → Int} (h : R8 f) : ∀ i, i < 8 → f i = limb (sval f) i := by
  obtain ⟨k, hk⟩ := sval_uval f
  exact limb_of h hk

theorem eqvW {f : Nat → Int} (h : R8 f) {z : Int} (hz : ∃ k, uval f = z + 2 * K5 * k) : Eqv (.arr .u64 8 f) (W z) := by
  obtain ⟨k, hk⟩ := hz
  exact eqv_arr (limb_of h hk)
theorem eqvW_self {f : Nat → Int} (h : R8 f) : Eqv (.arr .u64 8 f) (W (sval f)) := eqvW h (sval_uval f)

theorem not_val {f : Nat → Int} : uval (notF f) = 2 * K5 - 1 - uval f := by
  simp only [uval, notF, K5]
  omega
theorem zero_val : uval (fun _ => 0) = 0 := by simp [uval]

theorem minus_val {f : Nat → Int} (h : R8 f) : uval (minusF f) = if uval f = 0 then 0 else 2 * K5 - uval f := by
  have h1 := plus_val (f := notF f) (g := fun _ => 0) (c := 1)
  rw [not_val, zero_val] at h1
  have hb := uval_bound (R8_minus f)
  have hf := uval_bound h
  have hc := cy_bound (R8_not h) R8_zero (by decide : (0 : Int) ≤ 1) (by decide) 8 (by omega)
  have e : uval (minusF f) = uval (plusF (notF f) (fun _ => 0) 1) := rfl
  rw [e] at hb ⊢
  generalize cyF (notF f) (fun _ => 0) 1 8 = c8 at *
  have h8 : c8 = 0 ∨ c8 = 1 := by omega
  split <;> rcases h8 with rfl | rfl <;> omega

theorem size_val {f : Nat → Int} (h : R8 f) : uval (sizeF f) = if sval f < 0 then - sval f else sval f := by
  have hb := uval_bound h
  have hs := sval_bound h
  unfold sizeF
  by_cases hn : negF f = true
  · rw [if_pos hn, minus_val h, if_pos (hs.2.1 hn)]
    have := hb.2.2.1 hn
    have hK := K5_pos
    rw [if_neg (by omega)]
    unfold sval
    rw [if_pos hn]
    omega
  · have hn' : ¬ sval f < 0 := fun e => hn (hs.2.2 e)
    rw [if_neg hn, if_neg hn']
    unfold sval
    rw [if_neg hn]

theorem sval_zero : sval (fun _ => 0) = 0 := by decide
theorem limb_zero_all : ∀ i, i < 8 → limb 0 i = 0 := by decide
attribute [irreducible] K5 sval uval

end Go.X
