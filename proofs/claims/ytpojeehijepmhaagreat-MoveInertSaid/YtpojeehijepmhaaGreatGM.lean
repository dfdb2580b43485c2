/- Packages fix and vec, and their references: sums, exact products. -/
import Derived.Test.YtpojeehijepmhaaGreatGB
import Derived.Test.YtpojeehijepmhaaGreatGE
import Derived.Test.YtpojeehijepmhaaGreatGH

section
namespace Go.X
attribute [simp] Eqv.refl
mutual
theorem ren_noref (θ : Nat → Nat) : ∀ v : AV, refs v = [] → v.ren θ = v
  | .agg l, h => by simp only [AV.ren]; rw [renL_noref θ l (by simpa [refs] using h)]
  | .tup l, h => by simp only [AV.ren]; rw [renL_noref θ l (by simpa [refs] using h)]
  | .fn f l, h => by simp only [AV.ren]; rw [renL_noref θ l (by simpa [refs] using h)]
  | .mv f l, h => by simp only [AV.ren]; rw [renL_noref θ l (by simpa [refs] using h)]
  | .iface t v, h => by simp only [AV.ren]; rw [ren_noref θ v (by simpa [refs] using h)]
  | .ptr b o, h => by simp [refs] at h
  | .slice b o n c, h => by simp [refs] at h
  | .undef, _ | .bool _, _ | .int .., _ | .arr .., _ | .nilptr, _ | .nilslice, _ | .nilfn, _ | .nilif, _ | .win .., _ => by simp [AV.ren]
theorem renL_noref (θ : Nat → Nat) : ∀ l : List AV, refsL l = [] → renL θ l = l
  | [], _ => rfl
  | v :: l, h => by
    simp only [refsL, List.append_eq_nil_iff] at h
    simp only [renL]; rw [ren_noref θ v h.1, renL_noref θ l h.2]
end
theorem laid0 {env : Mem} {args : List AV} (h : refsL args = []) : Laid env args args [] [] :=
  ⟨(renL_noref _ _ h).symm, rfl, by simp, by simp [h], by simp, by simp⟩
theorem laid1 {env : Mem} {args : List AV} (args0 : List AV) {p : Nat} {l : List AV} {ty : TypeId} (ha : args = renL (fun i => [p].getD i 0) args0) (hr : ∀ b ∈ refsL args0, b < 1)
    (hp : env p = some ⟨l, ty⟩) (hl : refsL l = []) : Laid env args args0 [p] [⟨l, ty⟩] := by
  refine ⟨ha, rfl, by simp, hr, ?_, ?_⟩
  · intro i hi
    have : i = 0 := by simpa using hi
    subst this
    simp [hp, renL_noref _ _ hl]
  · intro i hi
    have : i = 0 := by simpa using hi
    subst this
    simp [hl]
theorem laid2 {env : Mem} {args : List AV} (args0 : List AV) {p q : Nat} {l m : List AV} {ty ty' : TypeId} (ha : args = renL (fun i => [p, q].getD i 0) args0) (hr : ∀ b ∈ refsL args0, b < 2)
    (hp : env p = some ⟨l, ty⟩) (hq : env q = some ⟨m, ty'⟩) (hne : p ≠ q) (hl : refsL l = []) (hm : refsL m = []) : Laid env args args0 [p, q] [⟨l, ty⟩, ⟨m, ty'⟩] := by
  have two : ∀ i, i < 2 → i = 0 ∨ i = 1 := by omega
  refine ⟨ha, rfl, by simp [hne], hr, ?_, ?_⟩
  · intro i hi
    rcases two i (by simpa using hi) with rfl | rfl
    · simp [hp, renL_noref _ _ hl]
    · simp [hq, renL_noref _ _ hm]
  · intro i hi
    rcases two i (by simpa using hi) with rfl | rfl
    · simp [hl]
    · simp [hm]
end Go.X
end

section
namespace Go.X
def clampI (z : Int) : Int := if InI z then z else if z < 0 then -9223372036854775808 else 9223372036854775807
theorem clampI_in (z : Int) : InI (clampI z) := by
  unfold clampI
  split
  · assumption
  · split <;> (unfold InI; omega)
theorem clampI_self {z : Int} (h : InI z) : clampI z = z := if_pos h
theorem clampI_hi {z : Int} (h : 9223372036854775807 < z) : clampI z = 9223372036854775807 := by
  unfold clampI
  rw [if_neg (by unfold InI; omega), if_neg (by omega)]
theorem clampI_lo {z : Int} (h : z < -9223372036854775808) : clampI z = -9223372036854775808 := by
  unfold clampI
  rw [if_neg (by unfold InI; omega), if_pos (by omega)]
def Bd (k : Nat) (z : Int) : Prop := -(2 ^ k) ≤ z ∧ z ≤ 2 ^ k
theorem Bd.w {k : Nat} {z : Int} (h : Bd k z) (hk : k ≤ 510) : InW z := by
  have h1 : (2 : Int) ^ k * 2 ≤ 2 ^ 511 := by
    rw [← Int.pow_succ]; exact pow_le (by omega)
  rw [pow_2_511] at h1
  have hp := pow_2_pos k
  unfold Bd at h; unfold InW
  generalize (2 : Int) ^ k = p at *
  omega
theorem Bd.mono {j k : Nat} {z : Int} (h : Bd j z) (hk : j ≤ k) : Bd k z := by
  have h1 : (2 : Int) ^ j ≤ 2 ^ k := pow_le hk
  unfold Bd at h ⊢; omega
theorem abs_mul {a b p q : Int} (ha : -p ≤ a ∧ a ≤ p) (hb : -q ≤ b ∧ b ≤ q) : -(p * q) ≤ a * b ∧ a * b ≤ p * q := by
  have hp : 0 ≤ p := by omega
  have hq : 0 ≤ q := by omega
  have h1 := Int.mul_nonneg (show 0 ≤ p - a by omega) (show 0 ≤ q - b by omega)
  have h2 := Int.mul_nonneg (show 0 ≤ p + a by omega) (show 0 ≤ q + b by omega)
  have h3 := Int.mul_nonneg (show 0 ≤ p - a by omega) (show 0 ≤ q + b by omega)
  have h4 := Int.mul_nonneg (show 0 ≤ p + a by omega) (show 0 ≤ q - b by omega)
  constructor <;> grind
theorem Bd.mul {j k : Nat} {a b : Int} (ha : Bd j a) (hb : Bd k b) : Bd (j + k) (a * b) := by
  have := abs_mul ha hb
  rw [← Int.pow_add] at this
  exact this
theorem Bd.add {k : Nat} {a b : Int} (ha : Bd k a) (hb : Bd k b) : Bd (k + 1) (a + b) := by
  unfold Bd at *; rw [Int.pow_succ]; omega
theorem Bd.sub {k : Nat} {a b : Int} (ha : Bd k a) (hb : Bd k b) : Bd (k + 1) (a - b) := by
  unfold Bd at *; rw [Int.pow_succ]; omega
theorem Bd.of {z : Int} (h : InI z) : Bd 63 z := by
  unfold InI at h; unfold Bd
  rw [show (2 : Int) ^ 63 = 9223372036854775808 from by decide]; omega
theorem Bd.shl {k : Nat} {a : Int} (n : Nat) (ha : Bd k a) : Bd (k + n) (a * 2 ^ n) := by
  have hp := pow_2_pos n
  refine ha.mul ?_
  unfold Bd; omega
theorem Bd.neg {k : Nat} {a : Int} (ha : Bd k a) : Bd k (-a) := by
  unfold Bd at *; omega
theorem ediv_le {a d : Int} (hd : 0 < d) : (0 ≤ a → 0 ≤ a / d ∧ a / d ≤ a) ∧ (a < 0 → a ≤ a / d ∧ a / d < 0) := by
  have h1 := Int.mul_ediv_add_emod a d
  have h2 := Int.emod_nonneg a (show d ≠ 0 by omega)
  have h3 := Int.emod_lt_of_pos a hd
  constructor
  · intro h
    have h4 := Int.ediv_nonneg h (Int.le_of_lt hd)
    refine ⟨h4, ?_⟩
    have := Int.mul_le_mul_of_nonneg_right (show 1 ≤ d by omega) h4
    omega
  · intro h
    have h4 : a / d < 0 := Int.ediv_neg_of_neg_of_pos h hd
    refine ⟨?_, h4⟩
    rw [Int.le_ediv_iff_mul_le hd]
    have := Int.mul_le_mul_of_nonpos_left (show a ≤ 0 by omega) (show 1 ≤ d by omega)
    omega
theorem Bd.ediv {k : Nat} {a d : Int} (ha : Bd k a) (hd : 0 < d) : Bd k (a / d) := by
  obtain ⟨h1, h2⟩ := ediv_le (a := a) hd
  have hp := pow_2_pos k
  unfold Bd at *
  rcases Int.lt_or_le a 0 with h | h
  · have := h2 h; omega
  · have := h1 h; omega
theorem Bd.half {k : Nat} {a : Int} (ha : Bd k a) (n : Nat) : Bd k (a / 2 ^ n) := ha.ediv (pow_2_pos n)
theorem Bd.zero {k : Nat} : Bd k 0 := by
  have hp := pow_2_pos k
  unfold Bd; omega
@[simp] theorem sval_limb_zero : sval (limb 0) = 0 := sval_limb (InI.w (by unfold InI; omega))
@[simp] theorem sgnI_nil : sgnI 0 = 0 := by decide
end Go.X
end

section
namespace Go.X
open Go.Proofs
attribute [local irreducible] Good
attribute [simp] Tryz.T_22
attribute [simp] Tryz.T_24
attribute [simp] Tryz.T_155
theorem ofS_in {n : Int} (h : InI n) : ofS [.int .i64 n] = .val (W n) := if_pos h
theorem fitI {z : Int} (h : InI z) : sval (limb z) = z := sval_limb h.w
theorem sgnI_neg {z : Int} : sgnI z < 0 ↔ z < 0 := by
  unfold sgnI
  by_cases h : z < 0
  · simp [h]
  · by_cases h2 : z = 0 <;> simp [h, h2]
theorem Bd.i {z : Int} (h : InI z) : Bd 63 z := Bd.of h
noncomputable def fwithinS : List AV → PR
  | [.arr .u64 8 f] => open Classical in if R8 f then .val (.int .i64 (clampI (sval f))) else .fail
  | _ => .fail
@[simp] theorem fwithinS_val {f : Nat → Int} (h : R8 f) : fwithinS [.arr .u64 8 f] = .val (.int .i64 (clampI (sval f))) := if_pos h
theorem fwithin_ok : SumOk Tryz.prog 79 (pureS fwithinS) := by
  refine sum_fn (L := fun _ => none) (n := 1) (S := stOf [(136, pureS intS), (70, pureS signS)]) drawS Tryz.T_ok (stOf_ok (by simp [int_ok, sign_ok])) Tryz.func79 rfl (by kernel_rfl) (by kernel_rfl) ?_
    (by intro args v h; unfold fwithinS at h; split at h <;> (try split at h) <;> simp at h)
  intro args v h
  unfold fwithinS at h
  split at h
  · rename_i f
    split at h
    · rename_i hc
      have hf := hc
      cases h
      refine ⟨by simp, by simp, by simp, ?_⟩
      by_cases h : InI (sval f)
      · simp [Tryz.f79, hf, h, clampI]
      · by_cases h0 : sval f < 0
        · have h1 := sgnI_neg.2 h0
          simp [Tryz.f79, hf, h, h0, h1, clampI]
        · have h1 : ¬ sgnI (sval f) < 0 := fun e => h0 (sgnI_neg.1 e)
          simp [Tryz.f79, hf, h, h0, h1, clampI]
    · simp at h
  · simp at h
noncomputable def frawS : List AV → PR
  | [.int .i64 a] => open Classical in if InI a then .val (W a) else .fail
  | _ => .fail
@[simp] theorem frawS_val {a : Int} (h : InI a) : frawS [.int .i64 a] = .val (W a) := if_pos h
theorem fraw_ok : SumOk Tryz.prog 178 (pureS frawS) := by
  refine sum_fn (L := fun _ => none) (n := 1) (S := stOf [(35, pureS ofS)]) drawS Tryz.T_ok (stOf_ok (by simp [of_ok])) Tryz.func178 rfl (by kernel_rfl) (by kernel_rfl) ?_
    (by intro args v h; unfold frawS at h; split at h <;> (try split at h) <;> simp at h)
  intro args v h
  unfold frawS at h
  split at h
  · rename_i a
    split at h
    · rename_i hc
      have ha := hc
      cases h
      refine ⟨by simp, by simp, by simp, ?_⟩
      simp [Tryz.f178, ofS_in ha]
    · simp at h
  · simp at h
noncomputable def fsumS : List AV → PR
  | [.arr .u64 8 f, .arr .u64 8 g] => open Classical in if R8 f ∧ R8 g ∧ InW (sval f + sval g) then .val (W (sval f + sval g)) else .fail
  | _ => .fail
@[simp] theorem fsumS_val {f g : Nat → Int} (h : R8 f ∧ R8 g ∧ InW (sval f + sval g)) : fsumS [.arr .u64 8 f, .arr .u64 8 g] = .val (W (sval f + sval g)) := if_pos h
theorem fsum_ok : SumOk Tryz.prog 177 (pureS fsumS) := by
  refine sum_fn (L := fun _ => none) (n := 1) (S := stOf [(78, pureS addS)]) drawS Tryz.T_ok (stOf_ok (by simp [add_ok])) Tryz.func177 rfl (by kernel_rfl) (by kernel_rfl) ?_
    (by intro args v h; unfold fsumS at h; split at h <;> (try split at h) <;> simp at h)
  intro args v h
  unfold fsumS at h
  split at h
  · rename_i f g
    split at h
    · rename_i hc
      obtain ⟨hf, hg, hi⟩ := hc
      cases h
      refine ⟨by simp, by simp, by simp, ?_⟩
      simp [Tryz.f177, hf, hg, hi, fitV]
    · simp at h
  · simp at h
noncomputable def faddS : List AV → PR
  | [.int .i64 a, .int .i64 b] => open Classical in if InI a ∧ InI b then .val (.int .i64 (clampI (a + b))) else .fail
  | _ => .fail
@[simp] theorem faddS_val {a b : Int} (h : InI a ∧ InI b) : faddS [.int .i64 a, .int .i64 b] = .val (.int .i64 (clampI (a + b))) := if_pos h
theorem fadd_ok : SumOk Tryz.prog 126 (pureS faddS) := by
  refine sum_fn (L := fun _ => none) (n := 1) (S := stOf [(178, pureS frawS), (177, pureS fsumS), (79, pureS fwithinS)]) drawS Tryz.T_ok (stOf_ok (by simp [fraw_ok, fsum_ok, fwithin_ok])) Tryz.func126 rfl (by kernel_rfl) (by kernel_rfl) ?_
    (by intro args v h; unfold faddS at h; split at h <;> (try split at h) <;> simp at h)
  intro args v h
  unfold faddS at h
  split at h
  · rename_i a b
    split at h
    · rename_i hc
      obtain ⟨ha, hb⟩ := hc
      cases h
      refine ⟨by simp, by simp, by simp, ?_⟩
      have hi : InW (a + b) := ((Bd.of ha).add (Bd.of hb)).w (by decide)
      have hs := sval_limb hi
      simp [Tryz.f126, ha, hb, R8_limb, fitI ha, fitI hb, hi, hs]
    · simp at h
  · simp at h
noncomputable def finS : List AV → PR
  | [.arr .u64 8 f, .int .i64 s] => open Classical in if R8 f ∧ 32 ≤ s ∧ s ≤ 543 then .val (.int .i64 (clampI (sval f / 2 ^ (s - 32).toNat))) else .fail
  | _ => .fail
@[simp] theorem finS_val {f : Nat → Int} {s : Int} (h : R8 f ∧ 32 ≤ s ∧ s ≤ 543) : finS [.arr .u64 8 f, .int .i64 s] = .val (.int .i64 (clampI (sval f / 2 ^ (s - 32).toNat))) := if_pos h
theorem fin_ok : SumOk Tryz.prog 39 (pureS finS) := by
  refine sum_fn (L := fun _ => none) (n := 1) (S := stOf [(80, pureS shrS), (79, pureS fwithinS)]) drawS Tryz.T_ok (stOf_ok (by simp [shr_ok, fwithin_ok])) Tryz.func39 rfl (by kernel_rfl) (by kernel_rfl) ?_
    (by intro args v h; unfold finS at h; split at h <;> (try split at h) <;> simp at h)
  intro args v h
  unfold finS at h
  split at h
  · rename_i f s
    split at h
    · rename_i hc
      obtain ⟨hf, h1, h2⟩ := hc
      cases h
      refine ⟨by simp, by simp, by simp, ?_⟩
      have h0 : ¬ s < 0 := by omega
      have w : IntKind.i64.wrap (s - 32) = s - 32 := wrap_i64_in (by omega) (by omega)
      have m : min (s - 32) 511 = s - 32 := by omega
      have b : s - 32 < 9223372036854775808 := by omega
      have hi := InW_ediv (sval_range hf) (pow_2_pos (s - 32).toNat)
      have hs := sval_limb hi
      simp [Tryz.f39, hf, h0, h1, w, m, b, hs, R8_limb]
    · simp at h
  · simp at h
noncomputable def vrawS : List AV → PR
  | [.int .i64 a] => open Classical in if InI a then .val (W a) else .fail
  | _ => .fail
@[simp] theorem vrawS_val {a : Int} (h : InI a) : vrawS [.int .i64 a] = .val (W a) := if_pos h
theorem vraw_ok : SumOk Tryz.prog 60 (pureS vrawS) := by
  refine sum_fn (L := fun _ => none) (n := 1) (S := stOf [(35, pureS ofS)]) drawS Tryz.T_ok (stOf_ok (by simp [of_ok])) Tryz.func60 rfl (by kernel_rfl) (by kernel_rfl) ?_
    (by intro args v h; unfold vrawS at h; split at h <;> (try split at h) <;> simp at h)
  intro args v h
  unfold vrawS at h
  split at h
  · rename_i a
    split at h
    · rename_i hc
      have ha := hc
      cases h
      refine ⟨by simp, by simp, by simp, ?_⟩
      simp [Tryz.f60, ofS_in ha]
    · simp at h
  · simp at h
noncomputable def vproductS : List AV → PR
  | [.arr .u64 8 f, .arr .u64 8 g] => open Classical in if R8 f ∧ R8 g ∧ InW (sval f * sval g) then .val (W (sval f * sval g)) else .fail
  | _ => .fail
@[simp] theorem vproductS_val {f g : Nat → Int} (h : R8 f ∧ R8 g ∧ InW (sval f * sval g)) : vproductS [.arr .u64 8 f, .arr .u64 8 g] = .val (W (sval f * sval g)) := if_pos h
theorem vproduct_ok : SumOk Tryz.prog 118 (pureS vproductS) := by
  refine sum_fn (L := fun _ => none) (n := 1) (S := stOf [(69, pureS mulS)]) drawS Tryz.T_ok (stOf_ok (by simp [mul_ok])) Tryz.func118 rfl (by kernel_rfl) (by kernel_rfl) ?_
    (by intro args v h; unfold vproductS at h; split at h <;> (try split at h) <;> simp at h)
  intro args v h
  unfold vproductS at h
  split at h
  · rename_i f g
    split at h
    · rename_i hc
      obtain ⟨hf, hg, hi⟩ := hc
      cases h
      refine ⟨by simp, by simp, by simp, ?_⟩
      simp [Tryz.f118, hf, hg, hi, fitV]
    · simp at h
  · simp at h
noncomputable def vtimesS : List AV → PR
  | [.int .i64 a, .int .i64 b] => open Classical in if InI a ∧ InI b then .val (W (a * b)) else .fail
  | _ => .fail
@[simp] theorem vtimesS_val {a b : Int} (h : InI a ∧ InI b) : vtimesS [.int .i64 a, .int .i64 b] = .val (W (a * b)) := if_pos h
theorem vtimes_ok : SumOk Tryz.prog 62 (pureS vtimesS) := by
  refine sum_fn (L := fun _ => none) (n := 1) (S := stOf [(60, pureS vrawS), (118, pureS vproductS)]) drawS Tryz.T_ok (stOf_ok (by simp [vraw_ok, vproduct_ok])) Tryz.func62 rfl (by kernel_rfl) (by kernel_rfl) ?_
    (by intro args v h; unfold vtimesS at h; split at h <;> (try split at h) <;> simp at h)
  intro args v h
  unfold vtimesS at h
  split at h
  · rename_i a b
    split at h
    · rename_i hc
      obtain ⟨ha, hb⟩ := hc
      cases h
      refine ⟨by simp, by simp, by simp, ?_⟩
      have hi : InW (a * b) := ((Bd.of ha).mul (Bd.of hb)).w (by decide)
      simp [Tryz.f62, ha, hb, R8_limb, fitI ha, fitI hb, hi]
    · simp at h
  · simp at h
end Go.X
end

section
namespace Go.X
open Go.Proofs
attribute [local irreducible] Good
theorem cmpI_pos {a b : Int} : 0 < cmpI a b ↔ b < a := by
  unfold cmpI
  by_cases h : a < b
  · simp [h]; omega
  · by_cases h2 : a = b
    · simp [h2]
    · simp [h, h2]; omega
theorem cmpI_neg {a b : Int} : cmpI a b < 0 ↔ a < b := by
  unfold cmpI
  by_cases h : a < b
  · simp [h]
  · by_cases h2 : a = b
    · simp [h2]
    · simp [h, h2]
noncomputable def rwithinS : List AV → PR
  | [.arr .u64 8 f] => open Classical in if R8 f then .val (.int .i64 (clampI (sval f))) else .fail
  | _ => .fail
@[simp] theorem rwithinS_val {f : Nat → Int} (h : R8 f) : rwithinS [.arr .u64 8 f] = .val (.int .i64 (clampI (sval f))) := if_pos h
theorem rwithin_ok : SumOk Tryz.prog 101 (pureS rwithinS) := by
  refine sum_fn (L := fun _ => none) (n := 1) (S := stOf [(152, pureS cmpS), (100, pureS ofS)]) drawS Tryz.T_ok (stOf_ok (by simp [rcmp_ok, small_ok])) Tryz.func101 rfl (by kernel_rfl) (by kernel_rfl) ?_
    (by intro args v h; unfold rwithinS at h; split at h <;> (try split at h) <;> simp at h)
  intro args v h
  unfold rwithinS at h
  split at h
  · rename_i f
    split at h
    · rename_i hc
      have hf := hc
      cases h
      refine ⟨by simp, by simp, by simp, ?_⟩
      have m1 : sval (limb 9223372036854775807) = 9223372036854775807 := fitI (by unfold InI; omega)
      have m2 : sval (limb (-9223372036854775808)) = -9223372036854775808 := fitI (by unfold InI; omega)
      have o1 : ofS [.int .i64 9223372036854775807] = .val (W 9223372036854775807) := ofS_in (by unfold InI; omega)
      have o2 : ofS [.int .i64 (-9223372036854775808)] = .val (W (-9223372036854775808)) := ofS_in (by unfold InI; omega)
      by_cases h1 : 9223372036854775807 < sval f
      · have e : clampI (sval f) = 9223372036854775807 := clampI_hi h1
        have k1 := cmpI_pos.2 h1
        simp [Tryz.f101, hf, o1, m1, R8_limb, k1, e]
      · have k1 : ¬ 0 < cmpI (sval f) 9223372036854775807 := fun e => h1 (cmpI_pos.1 e)
        by_cases h2 : sval f < -9223372036854775808
        · have e : clampI (sval f) = -9223372036854775808 := clampI_lo h2
          have k2 := cmpI_neg.2 h2
          simp [Tryz.f101, hf, o1, o2, m1, m2, R8_limb, k1, k2, e]
        · have k2 : ¬ cmpI (sval f) (-9223372036854775808) < 0 := fun e => h2 (cmpI_neg.1 e)
          have hi : InI (sval f) := by unfold InI; omega
          have e : clampI (sval f) = sval f := clampI_self hi
          have e0 : f 0 = sval f % 18446744073709551616 := limb_sval hf 0 (by omega)
          have e1 : IntKind.i64.wrap (f 0) = sval f := by rw [e0, wrap_i64_u64, wrap_i64_in hi.1 hi.2]
          simp [Tryz.f101, hf, o1, o2, m1, m2, R8_limb, k1, k2, e, e1]
    · simp at h
  · simp at h
noncomputable def r2rawS : List AV → PR
  | [.int .i64 a] => open Classical in if InI a then .val (W a) else .fail
  | _ => .fail
@[simp] theorem r2rawS_val {a : Int} (h : InI a) : r2rawS [.int .i64 a] = .val (W a) := if_pos h
theorem r2raw_ok : SumOk Tryz.prog 153 (pureS r2rawS) := by
  refine sum_fn (L := fun _ => none) (n := 1) (S := stOf [(100, pureS ofS)]) drawS Tryz.T_ok (stOf_ok (by simp [small_ok])) Tryz.func153 rfl (by kernel_rfl) (by kernel_rfl) ?_
    (by intro args v h; unfold r2rawS at h; split at h <;> (try split at h) <;> simp at h)
  intro args v h
  unfold r2rawS at h
  split at h
  · rename_i a
    split at h
    · rename_i hc
      have ha := hc
      cases h
      refine ⟨by simp, by simp, by simp, ?_⟩
      simp [Tryz.f153, ofS_in ha]
    · simp at h
  · simp at h
noncomputable def r2inS : List AV → PR
  | [.arr .u64 8 f, .int .i64 s] => open Classical in if R8 f ∧ 32 ≤ s ∧ s ≤ 543 then .val (.int .i64 (clampI (sval f / 2 ^ (s - 32).toNat))) else .fail
  | _ => .fail
@[simp] theorem r2inS_val {f : Nat → Int} {s : Int} (h : R8 f ∧ 32 ≤ s ∧ s ≤ 543) : r2inS [.arr .u64 8 f, .int .i64 s] = .val (.int .i64 (clampI (sval f / 2 ^ (s - 32).toNat))) := if_pos h
theorem r2in_ok : SumOk Tryz.prog 157 (pureS r2inS) := by
  refine sum_fn (L := fun _ => none) (n := 1) (S := stOf [(183, pureS shrS), (101, pureS rwithinS)]) drawS Tryz.T_ok (stOf_ok (by simp [rshr_ok, rwithin_ok])) Tryz.func157 rfl (by kernel_rfl) (by kernel_rfl) ?_
    (by intro args v h; unfold r2inS at h; split at h <;> (try split at h) <;> simp at h)
  intro args v h
  unfold r2inS at h
  split at h
  · rename_i f s
    split at h
    · rename_i hc
      obtain ⟨hf, h1, h2⟩ := hc
      cases h
      refine ⟨by simp, by simp, by simp, ?_⟩
      have h0 : ¬ s < 0 := by omega
      have w : IntKind.i64.wrap (s - 32) = s - 32 := wrap_i64_in (by omega) (by omega)
      have m : min (s - 32) 511 = s - 32 := by omega
      have b : s - 32 < 9223372036854775808 := by omega
      have hi := InW_ediv (sval_range hf) (pow_2_pos (s - 32).toNat)
      have hs := sval_limb hi
      simp [Tryz.f157, hf, h0, h1, w, m, b, hs, R8_limb]
    · simp at h
  · simp at h
noncomputable def r3rawS : List AV → PR
  | [.int .i64 a] => open Classical in if InI a then .val (W a) else .fail
  | _ => .fail
@[simp] theorem r3rawS_val {a : Int} (h : InI a) : r3rawS [.int .i64 a] = .val (W a) := if_pos h
theorem r3raw_ok : SumOk Tryz.prog 96 (pureS r3rawS) := by
  refine sum_fn (L := fun _ => none) (n := 1) (S := stOf [(100, pureS ofS)]) drawS Tryz.T_ok (stOf_ok (by simp [small_ok])) Tryz.func96 rfl (by kernel_rfl) (by kernel_rfl) ?_
    (by intro args v h; unfold r3rawS at h; split at h <;> (try split at h) <;> simp at h)
  intro args v h
  unfold r3rawS at h
  split at h
  · rename_i a
    split at h
    · rename_i hc
      have ha := hc
      cases h
      refine ⟨by simp, by simp, by simp, ?_⟩
      simp [Tryz.f96, ofS_in ha]
    · simp at h
  · simp at h
noncomputable def r3plusS : List AV → PR
  | [.arr .u64 8 f, .arr .u64 8 g] => open Classical in if R8 f ∧ R8 g ∧ InW (sval f + sval g) then .val (W (sval f + sval g)) else .fail
  | _ => .fail
@[simp] theorem r3plusS_val {f g : Nat → Int} (h : R8 f ∧ R8 g ∧ InW (sval f + sval g)) : r3plusS [.arr .u64 8 f, .arr .u64 8 g] = .val (W (sval f + sval g)) := if_pos h
theorem r3plus_ok : SumOk Tryz.prog 97 (pureS r3plusS) := by
  refine sum_fn (L := fun _ => none) (n := 1) (S := stOf [(141, pureS addS)]) drawS Tryz.T_ok (stOf_ok (by simp [radd_ok])) Tryz.func97 rfl (by kernel_rfl) (by kernel_rfl) ?_
    (by intro args v h; unfold r3plusS at h; split at h <;> (try split at h) <;> simp at h)
  intro args v h
  unfold r3plusS at h
  split at h
  · rename_i f g
    split at h
    · rename_i hc
      obtain ⟨hf, hg, hi⟩ := hc
      cases h
      refine ⟨by simp, by simp, by simp, ?_⟩
      simp [Tryz.f97, hf, hg, hi, fitV]
    · simp at h
  · simp at h
noncomputable def r3lessS : List AV → PR
  | [.arr .u64 8 f, .arr .u64 8 g] => open Classical in if R8 f ∧ R8 g ∧ InW (sval f - sval g) then .val (W (sval f - sval g)) else .fail
  | _ => .fail
@[simp] theorem r3lessS_val {f g : Nat → Int} (h : R8 f ∧ R8 g ∧ InW (sval f - sval g)) : r3lessS [.arr .u64 8 f, .arr .u64 8 g] = .val (W (sval f - sval g)) := if_pos h
theorem r3less_ok : SumOk Tryz.prog 107 (pureS r3lessS) := by
  refine sum_fn (L := fun _ => none) (n := 1) (S := stOf [(156, pureS subS)]) drawS Tryz.T_ok (stOf_ok (by simp [rsub_ok])) Tryz.func107 rfl (by kernel_rfl) (by kernel_rfl) ?_
    (by intro args v h; unfold r3lessS at h; split at h <;> (try split at h) <;> simp at h)
  intro args v h
  unfold r3lessS at h
  split at h
  · rename_i f g
    split at h
    · rename_i hc
      obtain ⟨hf, hg, hi⟩ := hc
      cases h
      refine ⟨by simp, by simp, by simp, ?_⟩
      simp [Tryz.f107, hf, hg, hi, fitV]
    · simp at h
  · simp at h
noncomputable def r3timesS : List AV → PR
  | [.arr .u64 8 f, .arr .u64 8 g] => open Classical in if R8 f ∧ R8 g ∧ InW (sval f * sval g) then .val (W (sval f * sval g)) else .fail
  | _ => .fail
@[simp] theorem r3timesS_val {f g : Nat → Int} (h : R8 f ∧ R8 g ∧ InW (sval f * sval g)) : r3timesS [.arr .u64 8 f, .arr .u64 8 g] = .val (W (sval f * sval g)) := if_pos h
theorem r3times_ok : SumOk Tryz.prog 95 (pureS r3timesS) := by
  refine sum_fn (L := fun _ => none) (n := 1) (S := stOf [(140, pureS mulS)]) drawS Tryz.T_ok (stOf_ok (by simp [rmul_ok])) Tryz.func95 rfl (by kernel_rfl) (by kernel_rfl) ?_
    (by intro args v h; unfold r3timesS at h; split at h <;> (try split at h) <;> simp at h)
  intro args v h
  unfold r3timesS at h
  split at h
  · rename_i f g
    split at h
    · rename_i hc
      obtain ⟨hf, hg, hi⟩ := hc
      cases h
      refine ⟨by simp, by simp, by simp, ?_⟩
      simp [Tryz.f95, hf, hg, hi, fitV]
    · simp at h
  · simp at h
noncomputable def r3twiceS : List AV → PR
  | [.arr .u64 8 f, .int .i64 n] => open Classical in if R8 f ∧ 0 ≤ n ∧ n < 9223372036854775808 ∧ InW (sval f * 2 ^ n.toNat) then .val (W (sval f * 2 ^ n.toNat)) else .fail
  | _ => .fail
@[simp] theorem r3twiceS_val {f : Nat → Int} {n : Int} (h : R8 f ∧ 0 ≤ n ∧ n < 9223372036854775808 ∧ InW (sval f * 2 ^ n.toNat)) : r3twiceS [.arr .u64 8 f, .int .i64 n] = .val (W (sval f * 2 ^ n.toNat)) := if_pos h
theorem r3twice_ok : SumOk Tryz.prog 99 (pureS r3twiceS) := by
  refine sum_fn (L := fun _ => none) (n := 1) (S := stOf [(151, pureS shlS)]) drawS Tryz.T_ok (stOf_ok (by simp [rshl_ok])) Tryz.func99 rfl (by kernel_rfl) (by kernel_rfl) ?_
    (by intro args v h; unfold r3twiceS at h; split at h <;> (try split at h) <;> simp at h)
  intro args v h
  unfold r3twiceS at h
  split at h
  · rename_i f n
    split at h
    · rename_i hc
      obtain ⟨hf, h0, h1, hi⟩ := hc
      cases h
      refine ⟨by simp, by simp, by simp, ?_⟩
      have h2 : ¬ n < 0 := by omega
      simp [Tryz.f99, hf, h1, h2, hi, shlV, fitV]
    · simp at h
  · simp at h
end Go.X
end
