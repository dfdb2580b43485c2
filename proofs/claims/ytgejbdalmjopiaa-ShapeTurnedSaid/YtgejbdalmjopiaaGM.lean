/- Packages fix and vec, and their references: sums, exact products. -/
import Derived.Test.YtgejbdalmjopiaaGB
import Derived.Test.YtgejbdalmjopiaaGE
import Derived.Test.YtgejbdalmjopiaaGH

section
namespace Go.X

attribute [simp] Eqv.refl

mutual
theorem ren_noref (θ : Nat → Nat) : ∀ v : AV, refs v = [] → v.ren θ = v
  | .agg l, h => by simp only [AV.ren]; rw [renL_noref θ l (by simpa [refs] using h)]
  | .tup l, h => by simp only [AV.ren]; rw [renL_noref θ l (by simpa [refs] using h)]
  | .fn f l, h => by simp only [AV.ren]; rw [renL_noref θ l (by simpa [refs] using h)]
  | .mv f l, h => by simp only [AV.ren]; rw [renL_noref θ l (by simpa [refs] using h)]
  | .iface t v, h => by simp only [AV.ren]; rw [ren_noref θ v (by simpa [refs] using h)]
  | .ptr b o, h => by simp [refs] at h
  | .slice b o n c, h => by simp [refs] at h
  | .undef, _ | .bool _, _ | .int .., _ | .arr .., _ | .nilptr, _ | .nilslice, _ | .nilfn, _ | .nilif, _ | .win .., _ => by simp [AV.ren]
theorem renL_noref (θ : Nat → Nat) : ∀ l : List AV, refsL l = [] → renL θ l = l
  | [], _ => rfl
  | v :: l, h => by
    simp only [refsL, List.append_eq_nil_iff] at h
    simp only [renL]; rw [ren_noref θ v h.1, renL_noref θ l h.2]
end

theorem laid0 {env : Mem} {args : List AV} (h : refsL args = []) : Laid env args args [] [] :=
  ⟨(renL_noref _ _ h).symm, rfl, by simp, by simp [h], by simp, by simp⟩
theorem laid1 {env : Mem} {args : List AV} (args0 : List AV) {p : Nat} {l : List AV} {ty : TypeId} (ha : args = renL (fun i => [p].getD i 0) args0) (hr : ∀ b ∈ refsL args0, b < 1)
    (hp : env p = some ⟨l, ty⟩) (hl : refsL l = []) : Laid env args args0 [p] [⟨l, ty⟩] := by
  refine ⟨ha, rfl, by simp, hr, ?_, ?_⟩
  · intro i hi
    have : i = 0 := by simpa using hi
    subst this
    simp [hp, renL_noref _ _ hl]
  · intro i hi
    have : i = 0 := by simpa using hi
    subst this
    simp [hl]
theorem laid2 {env : Mem} {args : List AV} (args0 : List AV) {p q : Nat} {l m : List AV} {ty ty' : TypeId} (ha : args = renL (fun i => [p, q].getD i 0) args0) (hr : ∀ b ∈ refsL args0, b < 2)
    (hp : env p = some ⟨l, ty⟩) (hq : env q = some ⟨m, ty'⟩) (hne : p ≠ q) (hl : refsL l = []) (hm : refsL m = []) : Laid env args args0 [p, q] [⟨l, ty⟩, ⟨m, ty'⟩] := by
  have two : ∀ i, i < 2 → i = 0 ∨ i = 1 := by omega
  refine ⟨ha, rfl, by simp [hne], hr, ?_, ?_⟩
  · intro i hi
    rcases two i (by simpa using hi) with rfl | rfl
    · simp [hp, renL_noref _ _ hl]
    · simp [hq, renL_noref _ _ hm]
  · intro i hi
    rcases two i (by simpa using hi) with rfl | rfl
    · simp [hl]
    · simp [hm]

end Go.X
end

section
namespace Go.X

/-- within 64 bits, at an end where it is not -/
def clampI (z : Int) : Int := if InI z then z else if z < 0 then -9223372036854775808 else 9223372036854775807
theorem clampI_in (z : Int) : InI (clampI z) := by
  unfold clampI
  split
  · assumption
  · split <;> (unfold InI; omega)
theorem clampI_self {z : Int} (h : InI z) : clampI z = z := if_pos h
/-- at most 2^k off 0 -/
def Bd (k : Nat) (z : Int) : Prop := -(2 ^ k) ≤ z ∧ z ≤ 2 ^ k
theorem Bd.w {k : Nat} {z : Int} (h : Bd k z) (hk : k ≤ 510) : InW z := by
  have h1 : (2 : Int) ^ k * 2 ≤ 2 ^ 511 := by
    rw [← Int.pow_succ]; exact pow_le (by omega)
  rw [pow_2_511] at h1
  have hp := pow_2_pos k
  unfold Bd at h; unfold InW
  generalize (2 : Int) ^ k = p at *
  omega
theorem Bd.mono {j k : Nat} {z : Int} (h : Bd j z) (hk : j ≤ k) : Bd k z := by
  have h1 : (2 : Int) ^ j ≤ 2 ^ k := pow_le hk
  unfold Bd at h ⊢; omega
theorem abs_mul {a b p q : Int} (ha : -p ≤ a ∧ a ≤ p) (hb : -q ≤ b ∧ b ≤ q) : -(p * q) ≤ a * b ∧ a * b ≤ p * q := by
  have hp : 0 ≤ p := by omega
  have hq : 0 ≤ q := by omega
  have h1 := Int.mul_nonneg (show 0 ≤ p - a by omega) (show 0 ≤ q - b by omega)
  have h2 := Int.mul_nonneg (show 0 ≤ p + a by omega) (show 0 ≤ q + b by omega)
  have h3 := Int.mul_nonneg (show 0 ≤ p - a by omega) (show 0 ≤ q + b by omega)
  have h4 := Int.mul_nonneg (show 0 ≤ p + a by omega) (show 0 ≤ q - b by omega)
  constructor <;> grind
theorem Bd.mul {j k : Nat} {a b : Int} (ha : Bd j a) (hb : Bd k b) : Bd (j + k) (a * b) := by
  have := abs_mul ha hb
  rw [← Int.pow_add] at this
  exact this
theorem Bd.add {k : Nat} {a b : Int} (ha : Bd k a) (hb : Bd k b) : Bd (k + 1) (a + b) := by
  unfold Bd at *; rw [Int.pow_succ]; omega
theorem Bd.sub {k : Nat} {a b : Int} (ha : Bd k a) (hb : Bd k b) : Bd (k + 1) (a - b) := by
  unfold Bd at *; rw [Int.pow_succ]; omega
theorem Bd.of {z : Int} (h : InI z) : Bd 63 z := by
  unfold InI at h; unfold Bd
  rw [show (2 : Int) ^ 63 = 9223372036854775808 from by decide]; omega
theorem Bd.shl {k : Nat} {a : Int} (n : Nat) (ha : Bd k a) : Bd (k + n) (a * 2 ^ n) := by
  have hp := pow_2_pos n
  refine ha.mul ?_
  unfold Bd; omega
theorem Bd.neg {k : Nat} {a : Int} (ha : Bd k a) : Bd k (-a) := by
  unfold Bd at *; omega
theorem ediv_le {a d : Int} (hd : 0 < d) : (0 ≤ a → 0 ≤ a / d ∧ a / d ≤ a) ∧ (a < 0 → a ≤ a / d ∧ a / d < 0) := by
  have h1 := Int.mul_ediv_add_emod a d
  have h2 := Int.emod_nonneg a (show d ≠ 0 by omega)
  have h3 := Int.emod_lt_of_pos a hd
  constructor
  · intro h
    have h4 := Int.ediv_nonneg h (Int.le_of_lt hd)
    refine ⟨h4, ?_⟩
    have := Int.mul_le_mul_of_nonneg_right (show 1 ≤ d by omega) h4
    omega
  · intro h
    have h4 : a / d < 0 := Int.ediv_neg_of_neg_of_pos h hd
    refine ⟨?_, h4⟩
    rw [Int.le_ediv_iff_mul_le hd]
    have := Int.mul_le_mul_of_nonpos_left (show a ≤ 0 by omega) (show 1 ≤ d by omega)
    omega
theorem Bd.ediv {k : Nat} {a d : Int} (ha : Bd k a) (hd : 0 < d) : Bd k (a / d) := by
  obtain ⟨h1, h2⟩ := ediv_le (a := a) hd
  have hp := pow_2_pos k
  unfold Bd at *
  rcases Int.lt_or_le a 0 with h | h
  · have := h2 h; omega
  · have := h1 h; omega
theorem Bd.half {k : Nat} {a : Int} (ha : Bd k a) (n : Nat) : Bd k (a / 2 ^ n) := ha.ediv (pow_2_pos n)
theorem Bd.zero {k : Nat} : Bd k 0 := by
  have hp := pow_2_pos k
  unfold Bd; omega

@[simp] theorem sval_limb_zero : sval (limb 0) = 0 := sval_limb (InI.w (by unfold InI; omega))
@[simp] theorem sgnI_nil : sgnI 0 = 0 := by decide

end Go.X
end

section
namespace Go.X
open Go.Proofs
attribute [local irreducible] Good
attribute [simp] Try.T_22
attribute [simp] Try.T_24
attribute [simp] Try.T_107

theorem ofS_in {n : Int} (h : InI n) : ofS [.int .i64 n] = .val (W n) := if_pos h
theorem fitI {z : Int} (h : InI z) : sval (limb z) = z := sval_limb h.w
theorem sgnI_neg {z : Int} : sgnI z < 0 ↔ z < 0 := by
  unfold sgnI
  by_cases h : z < 0
  · simp [h]
  · by_cases h2 : z = 0 <;> simp [h, h2]
theorem Bd.i {z : Int} (h : InI z) : Bd 63 z := Bd.of h

noncomputable def fwithinS : List AV → PR
  | [.arr .u64 8 f] => open Classical in if R8 f then .val (.int .i64 (clampI (sval f))) else .fail
  | _ => .fail
@[simp] theorem fwithinS_val {f : Nat → Int} (h : R8 f) : fwithinS [.arr .u64 8 f] = .val (.int .i64 (clampI (sval f))) := if_pos h
theorem fwithin_ok : SumOk Try.prog 37 (pureS fwithinS) := by
  refine sum_fn (L := fun _ => none) (n := 1) (S := stOf [(71, pureS intS), (59, pureS signS)]) drawS Try.T_ok (stOf_ok (by simp [int_ok, sign_ok])) Try.func37 rfl (by kernel_rfl) (by kernel_rfl) ?_
    (by intro args v h; unfold fwithinS at h; split at h <;> (try split at h) <;> simp at h)
  intro args v h
  unfold fwithinS at h
  split at h
  · rename_i f
    split at h
    · rename_i hc
      have hf := hc
      cases h
      refine ⟨by simp, by simp, by simp, ?_⟩
      by_cases h : InI (sval f)
      · simp [Try.f37, hf, h, clampI]
      · by_cases h0 : sval f < 0
        · have h1 := sgnI_neg.2 h0
          simp [Try.f37, hf, h, h0, h1, clampI]
        · have h1 : ¬ sgnI (sval f) < 0 := fun e => h0 (sgnI_neg.1 e)
          simp [Try.f37, hf, h, h0, h1, clampI]
    · simp at h
  · simp at h

noncomputable def frawS : List AV → PR
  | [.int .i64 a] => open Classical in if InI a then .val (W a) else .fail
  | _ => .fail
@[simp] theorem frawS_val {a : Int} (h : InI a) : frawS [.int .i64 a] = .val (W a) := if_pos h
theorem fraw_ok : SumOk Try.prog 39 (pureS frawS) := by
  refine sum_fn (L := fun _ => none) (n := 1) (S := stOf [(32, pureS ofS)]) drawS Try.T_ok (stOf_ok (by simp [of_ok])) Try.func39 rfl (by kernel_rfl) (by kernel_rfl) ?_
    (by intro args v h; unfold frawS at h; split at h <;> (try split at h) <;> simp at h)
  intro args v h
  unfold frawS at h
  split at h
  · rename_i a
    split at h
    · rename_i hc
      have ha := hc
      cases h
      refine ⟨by simp, by simp, by simp, ?_⟩
      simp [Try.f39, ofS_in ha]
    · simp at h
  · simp at h

noncomputable def fsumS : List AV → PR
  | [.arr .u64 8 f, .arr .u64 8 g] => open Classical in if R8 f ∧ R8 g ∧ InW (sval f + sval g) then .val (W (sval f + sval g)) else .fail
  | _ => .fail
@[simp] theorem fsumS_val {f g : Nat → Int} (h : R8 f ∧ R8 g ∧ InW (sval f + sval g)) : fsumS [.arr .u64 8 f, .arr .u64 8 g] = .val (W (sval f + sval g)) := if_pos h
theorem fsum_ok : SumOk Try.prog 38 (pureS fsumS) := by
  refine sum_fn (L := fun _ => none) (n := 1) (S := stOf [(67, pureS addS)]) drawS Try.T_ok (stOf_ok (by simp [add_ok])) Try.func38 rfl (by kernel_rfl) (by kernel_rfl) ?_
    (by intro args v h; unfold fsumS at h; split at h <;> (try split at h) <;> simp at h)
  intro args v h
  unfold fsumS at h
  split at h
  · rename_i f g
    split at h
    · rename_i hc
      obtain ⟨hf, hg, hi⟩ := hc
      cases h
      refine ⟨by simp, by simp, by simp, ?_⟩
      simp [Try.f38, hf, hg, hi, fitV]
    · simp at h
  · simp at h

noncomputable def faddS : List AV → PR
  | [.int .i64 a, .int .i64 b] => open Classical in if InI a ∧ InI b then .val (.int .i64 (clampI (a + b))) else .fail
  | _ => .fail
@[simp] theorem faddS_val {a b : Int} (h : InI a ∧ InI b) : faddS [.int .i64 a, .int .i64 b] = .val (.int .i64 (clampI (a + b))) := if_pos h
theorem fadd_ok : SumOk Try.prog 20 (pureS faddS) := by
  refine sum_fn (L := fun _ => none) (n := 1) (S := stOf [(39, pureS frawS), (38, pureS fsumS), (37, pureS fwithinS)]) drawS Try.T_ok (stOf_ok (by simp [fraw_ok, fsum_ok, fwithin_ok])) Try.func20 rfl (by kernel_rfl) (by kernel_rfl) ?_
    (by intro args v h; unfold faddS at h; split at h <;> (try split at h) <;> simp at h)
  intro args v h
  unfold faddS at h
  split at h
  · rename_i a b
    split at h
    · rename_i hc
      obtain ⟨ha, hb⟩ := hc
      cases h
      refine ⟨by simp, by simp, by simp, ?_⟩
      have hi : InW (a + b) := ((Bd.of ha).add (Bd.of hb)).w (by decide)
      have hs := sval_limb hi
      simp [Try.f20, ha, hb, R8_limb, fitI ha, fitI hb, hi, hs]
    · simp at h
  · simp at h

noncomputable def finS : List AV → PR
  | [.arr .u64 8 f, .int .i64 s] => open Classical in if R8 f ∧ 32 ≤ s ∧ s ≤ 543 then .val (.int .i64 (clampI (sval f / 2 ^ (s - 32).toNat))) else .fail
  | _ => .fail
@[simp] theorem finS_val {f : Nat → Int} {s : Int} (h : R8 f ∧ 32 ≤ s ∧ s ≤ 543) : finS [.arr .u64 8 f, .int .i64 s] = .val (.int .i64 (clampI (sval f / 2 ^ (s - 32).toNat))) := if_pos h
theorem fin_ok : SumOk Try.prog 36 (pureS finS) := by
  refine sum_fn (L := fun _ => none) (n := 1) (S := stOf [(68, pureS shrS), (37, pureS fwithinS)]) drawS Try.T_ok (stOf_ok (by simp [shr_ok, fwithin_ok])) Try.func36 rfl (by kernel_rfl) (by kernel_rfl) ?_
    (by intro args v h; unfold finS at h; split at h <;> (try split at h) <;> simp at h)
  intro args v h
  unfold finS at h
  split at h
  · rename_i f s
    split at h
    · rename_i hc
      obtain ⟨hf, h1, h2⟩ := hc
      cases h
      refine ⟨by simp, by simp, by simp, ?_⟩
      have h0 : ¬ s < 0 := by omega
      have w : IntKind.i64.wrap (s - 32) = s - 32 := wrap_i64_in (by omega) (by omega)
      have m : min (s - 32) 511 = s - 32 := by omega
      have b : s - 32 < 9223372036854775808 := by omega
      have hi := InW_ediv (sval_range hf) (pow_2_pos (s - 32).toNat)
      have hs := sval_limb hi
      simp [Try.f36, hf, h0, h1, w, m, b, hs, R8_limb]
    · simp at h
  · simp at h

noncomputable def vrawS : List AV → PR
  | [.int .i64 a] => open Classical in if InI a then .val (W a) else .fail
  | _ => .fail
@[simp] theorem vrawS_val {a : Int} (h : InI a) : vrawS [.int .i64 a] = .val (W a) := if_pos h
theorem vraw_ok : SumOk Try.prog 77 (pureS vrawS) := by
  refine sum_fn (L := fun _ => none) (n := 1) (S := stOf [(32, pureS ofS)]) drawS Try.T_ok (stOf_ok (by simp [of_ok])) Try.func77 rfl (by kernel_rfl) (by kernel_rfl) ?_
    (by intro args v h; unfold vrawS at h; split at h <;> (try split at h) <;> simp at h)
  intro args v h
  unfold vrawS at h
  split at h
  · rename_i a
    split at h
    · rename_i hc
      have ha := hc
      cases h
      refine ⟨by simp, by simp, by simp, ?_⟩
      simp [Try.f77, ofS_in ha]
    · simp at h
  · simp at h

noncomputable def vproductS : List AV → PR
  | [.arr .u64 8 f, .arr .u64 8 g] => open Classical in if R8 f ∧ R8 g ∧ InW (sval f * sval g) then .val (W (sval f * sval g)) else .fail
  | _ => .fail
@[simp] theorem vproductS_val {f g : Nat → Int} (h : R8 f ∧ R8 g ∧ InW (sval f * sval g)) : vproductS [.arr .u64 8 f, .arr .u64 8 g] = .val (W (sval f * sval g)) := if_pos h
theorem vproduct_ok : SumOk Try.prog 54 (pureS vproductS) := by
  refine sum_fn (L := fun _ => none) (n := 1) (S := stOf [(58, pureS mulS)]) drawS Try.T_ok (stOf_ok (by simp [mul_ok])) Try.func54 rfl (by kernel_rfl) (by kernel_rfl) ?_
    (by intro args v h; unfold vproductS at h; split at h <;> (try split at h) <;> simp at h)
  intro args v h
  unfold vproductS at h
  split at h
  · rename_i f g
    split at h
    · rename_i hc
      obtain ⟨hf, hg, hi⟩ := hc
      cases h
      refine ⟨by simp, by simp, by simp, ?_⟩
      simp [Try.f54, hf, hg, hi, fitV]
    · simp at h
  · simp at h

noncomputable def vtimesS : List AV → PR
  | [.int .i64 a, .int .i64 b] => open Classical in if InI a ∧ InI b then .val (W (a * b)) else .fail
  | _ => .fail
@[simp] theorem vtimesS_val {a b : Int} (h : InI a ∧ InI b) : vtimesS [.int .i64 a, .int .i64 b] = .val (W (a * b)) := if_pos h
theorem vtimes_ok : SumOk Try.prog 56 (pureS vtimesS) := by
  refine sum_fn (L := fun _ => none) (n := 1) (S := stOf [(77, pureS vrawS), (54, pureS vproductS)]) drawS Try.T_ok (stOf_ok (by simp [vraw_ok, vproduct_ok])) Try.func56 rfl (by kernel_rfl) (by kernel_rfl) ?_
    (by intro args v h; unfold vtimesS at h; split at h <;> (try split at h) <;> simp at h)
  intro args v h
  unfold vtimesS at h
  split at h
  · rename_i a b
    split at h
    · rename_i hc
      obtain ⟨ha, hb⟩ := hc
      cases h
      refine ⟨by simp, by simp, by simp, ?_⟩
      have hi : InW (a * b) := ((Bd.of ha).mul (Bd.of hb)).w (by decide)
      simp [Try.f56, ha, hb, R8_limb, fitI ha, fitI hb, hi]
    · simp at h
  · simp at h

noncomputable def vsumS : Sum := fun args env _ => match args with
  | [.slice p 0 3 _] => match env p with
    | some ⟨[.arr .u64 8 f, .arr .u64 8 g, .arr .u64 8 h], _⟩ => open Classical in if R8 f ∧ R8 g ∧ R8 h ∧ Bd 130 (sval f) ∧ Bd 130 (sval g) ∧ Bd 130 (sval h) then .val (W (sval f + sval g + sval h)) [] [] else .fail
    | _ => .fail
  | _ => .fail
set_option maxHeartbeats 4000000 in
theorem vsum_ok : SumOk Try.prog 55 vsumS := by
  refine sum_read (L := fun _ => none) (n := 5) (S := stOf [(67, pureS addS)]) drawS Try.T_ok (stOf_ok (by simp [add_ok])) Try.func55 rfl (by kernel_rfl) (by kernel_rfl) ?_
  intro args env nxt h
  unfold vsumS at h ⊢
  split at h
  · rename_i p c
    split at h
    · rename_i f g k ty e1
      split at h
      · rename_i hc
        obtain ⟨hf, hg, hk, bf, bg, bk⟩ := hc
        have i1 : InW (sval f) := sval_range hf
        have i2 : InW (sval f + sval g) := (bf.add bg).w (by decide)
        have i3 : InW (sval f + sval g + sval k) := ((bf.add bg).add (bk.mono (by decide))).w (by decide)
        refine ⟨_, _, _, W (sval f + sval g + sval k), laid1 [.slice 0 0 3 c] rfl (by simp) e1 rfl, by simp [hf, hg, hk, bf, bg, bk], by simp, by simp, ?_⟩
        simp [Try.f55, hf, hg, hk, R8_zero, sval_zero, R8_limb, fitV, i1, i2, i3, sval_limb i1, sval_limb i2]

      · simp at h
    · simp at h
  · simp at h

noncomputable def vdotS : List AV → PR
  | [.agg [.int .i64 a, .int .i64 b, .int .i64 c], .agg [.int .i64 d, .int .i64 e, .int .i64 f]] => open Classical in if InI a ∧ InI b ∧ InI c ∧ InI d ∧ InI e ∧ InI f then .val (W (a * d + b * e + c * f)) else .fail
  | _ => .fail
@[simp] theorem vdotS_val {a b c d e f : Int} (h : InI a ∧ InI b ∧ InI c ∧ InI d ∧ InI e ∧ InI f) : vdotS [.agg [.int .i64 a, .int .i64 b, .int .i64 c], .agg [.int .i64 d, .int .i64 e, .int .i64 f]] = .val (W (a * d + b * e + c * f)) := if_pos h
set_option maxHeartbeats 4000000 in
theorem vdot_ok : SumOk Try.prog 26 (pureS vdotS) := by
  refine sum_fn (L := fun i => if i = 1 then some (.quiet 17) else none) (n := 1) (S := stOf [(56, pureS vtimesS), (55, vsumS)]) drawS Try.T_ok (stOf_ok (by simp [vtimes_ok, vsum_ok])) Try.func26 rfl (by kernel_rfl) (by kernel_rfl) ?_
    (by intro args v h; unfold vdotS at h; split at h <;> (try split at h) <;> simp at h)
  intro args v h
  unfold vdotS at h
  split at h
  · rename_i a b c d e f
    split at h
    · rename_i hc
      obtain ⟨ha, hb, hc, hd, he, hf⟩ := hc
      cases h
      refine ⟨by simp, by simp, by simp, ?_⟩
      have b1 : Bd 126 (a * d) := (Bd.of ha).mul (Bd.of hd)
      have b2 : Bd 126 (b * e) := (Bd.of hb).mul (Bd.of he)
      have b3 : Bd 126 (c * f) := (Bd.of hc).mul (Bd.of hf)
      have s1 := sval_limb (b1.w (by decide)); have s2 := sval_limb (b2.w (by decide)); have s3 := sval_limb (b3.w (by decide))
      have c1 : Bd 130 (a * d) := b1.mono (by decide)
      have c2 : Bd 130 (b * e) := b2.mono (by decide)
      have c3 : Bd 130 (c * f) := b3.mono (by decide)
      simp [Try.f26, ha, hb, hc, hd, he, hf, vsumS, R8_limb, s1, s2, s3, c1, c2, c3]
    · simp at h
  · simp at h

end Go.X
end

section
namespace Go.X
open Go.Proofs
attribute [local irreducible] Good

end Go.X
end
