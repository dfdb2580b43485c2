/- Package wide: products, shifts to the left, roots. -/
import Derived.Test.YtpojeehijepmhaaGreatGC
import Derived.Test.YtpojeehijepmhaaGreatGD

section
namespace Go.X
theorem bpow (k : Nat) : (0 : Int) < 18446744073709551616 ^ k := Int.pow_pos (by decide)
def lowU (f : Nat → Int) : Nat → Int
  | 0 => 0
  | k + 1 => lowU f k + f k * 18446744073709551616 ^ k
theorem lowU_8 (f : Nat → Int) : lowU f 8 = uval f := by
  simp only [lowU, uval]
  omega
theorem lowU_nonneg {f : Nat → Int} (h : R8 f) : ∀ k, k ≤ 8 → 0 ≤ lowU f k
  | 0, _ => by simp [lowU]
  | k + 1, hk => by
    have := lowU_nonneg h k (by omega)
    have := Int.mul_nonneg (h k (by omega)).1 (Int.le_of_lt (bpow (k)))
    simp only [lowU]; omega
theorem lowU_mono {f : Nat → Int} (h : R8 f) (k : Nat) : ∀ d, k + d ≤ 8 → lowU f k ≤ lowU f (k + d)
  | 0, _ => Int.le_refl _
  | d + 1, hk => by
    have := lowU_mono h k d (by omega)
    have := Int.mul_nonneg (h (k + d) (by omega)).1 (Int.le_of_lt (bpow (k + d)))
    show _ ≤ lowU f (k + d) + f (k + d) * 18446744073709551616 ^ (k + d)
    omega
theorem lowU_le {f : Nat → Int} (h : R8 f) {k : Nat} (hk : k ≤ 8) : lowU f k ≤ uval f := by
  rw [← lowU_8]
  have := lowU_mono h k (8 - k) (by omega)
  rwa [show k + (8 - k) = 8 from by omega] at this
theorem R8_upd {f : Nat → Int} (h : R8 f) {i : Nat} {v : Int} (h0 : 0 ≤ v) (h1 : v < 18446744073709551616) : R8 (upd f i v) := by
  intro j hj
  unfold upd
  split
  · exact ⟨h0, h1⟩
  · exact h j hj
theorem K5_pow8 : 2 * K5 = 18446744073709551616 ^ 8 := by unfold K5; decide
theorem mul_step {x y c l : Int} (hx : 0 ≤ x ∧ x < 18446744073709551616) (hy : 0 ≤ y ∧ y < 18446744073709551616) (hc : 0 ≤ c ∧ c < 18446744073709551616) (hl : 0 ≤ l ∧ l < 18446744073709551616) :
    0 ≤ x * y ∧ x * y ≤ 340282366920938463426481119284349108225 ∧ (l + (x * y + c)) % 18446744073709551616 + 18446744073709551616 * (x * y / 18446744073709551616 + (x * y % 18446744073709551616 + c) / 18446744073709551616 + (l + (x * y + c) % 18446744073709551616) / 18446744073709551616) = l + c + x * y ∧
    0 ≤ x * y / 18446744073709551616 + (x * y % 18446744073709551616 + c) / 18446744073709551616 ∧ x * y / 18446744073709551616 + (x * y % 18446744073709551616 + c) / 18446744073709551616 < 18446744073709551616 ∧
    0 ≤ x * y / 18446744073709551616 + (x * y % 18446744073709551616 + c) / 18446744073709551616 + (l + (x * y + c) % 18446744073709551616) / 18446744073709551616 ∧ x * y / 18446744073709551616 + (x * y % 18446744073709551616 + c) / 18446744073709551616 + (l + (x * y + c) % 18446744073709551616) / 18446744073709551616 < 18446744073709551616 := by
  have h0 := Int.mul_nonneg hx.1 hy.1
  have h1 : x * y ≤ 18446744073709551615 * 18446744073709551615 := Int.mul_le_mul (by omega) (by omega) hy.1 (by decide)
  generalize x * y = p at *
  refine ⟨h0, by omega, ?_, ?_, ?_, ?_, ?_⟩ <;> omega
theorem mul_in_step {l : Nat → Int} {y : Nat → Int} {i k : Nat} {x c L0 v c' : Int} (hik : i + k < 8) (h : uval l + c * 18446744073709551616 ^ (i + k) = L0 + x * 18446744073709551616 ^ i * lowU y k) (hv : v + 18446744073709551616 * c' = l (i + k) + c + x * y k) :
    uval (upd l (i + k) v) + c' * 18446744073709551616 ^ (i + (k + 1)) = L0 + x * 18446744073709551616 ^ i * lowU y (k + 1) := by
  rw [uval_upd hik, lowU, show i + (k + 1) = (i + k) + 1 from rfl, Int.pow_succ]
  have e : (18446744073709551616 : Int) ^ (i + k) = 18446744073709551616 ^ i * 18446744073709551616 ^ k := Int.pow_add ..
  have e2 : v = l (i + k) + c + x * y k - 18446744073709551616 * c' := by omega
  rw [e2]
  rw [e] at h ⊢
  generalize (18446744073709551616 : Int) ^ i = bi at *
  generalize (18446744073709551616 : Int) ^ k = bk at *
  generalize lowU y k = u at *
  generalize uval l = ul at *
  grind
theorem mul_over {X Y : Nat → Int} {i e : Nat} {c L0 l u : Int} (hX : R8 X) (hY : R8 Y) (hi : i < 8) (hu : u ≤ uval Y) (he : 8 ≤ e) (hL : L0 = lowU X i * uval Y) (hl : 0 ≤ l) (h : l + c * 18446744073709551616 ^ e = L0 + X i * 18446744073709551616 ^ i * u) (hc : 0 < c) : 2 * K5 ≤ uval X * uval Y := by
  have h1 : L0 + X i * 18446744073709551616 ^ i * u ≤ L0 + X i * 18446744073709551616 ^ i * uval Y := by
    have := Int.mul_le_mul_of_nonneg_left hu (Int.mul_nonneg (hX i hi).1 (Int.le_of_lt (bpow (i))))
    omega
  have h2 : L0 + X i * 18446744073709551616 ^ i * uval Y = lowU X (i + 1) * uval Y := by rw [hL, lowU, Int.add_mul]
  have h3 : lowU X (i + 1) * uval Y ≤ uval X * uval Y := Int.mul_le_mul_of_nonneg_right (lowU_le hX (by omega)) (uval_bound hY).1
  have h4 : 1 * 18446744073709551616 ^ 8 ≤ c * 18446744073709551616 ^ e := by
    refine Int.mul_le_mul (by omega) ?_ (by decide) (by omega)
    obtain ⟨d, hd⟩ : ∃ d, e = 8 + d := ⟨e - 8, by omega⟩
    rw [hd, Int.pow_add]
    have : (1 : Int) ≤ 18446744073709551616 ^ d := bpow d
    have := Int.mul_le_mul_of_nonneg_left this (show (0 : Int) ≤ 18446744073709551616 ^ 8 by decide)
    omega
  have h5 := K5_pow8
  omega
end Go.X
end

section
namespace Go.X
open Go.Proofs
attribute [local irreducible] Good
noncomputable def mulP (f g : Nat → Int) (t9 t10 t22 t29 : Option AV) : List (Option AV) := [some (.arr .u64 8 f), some (.arr .u64 8 g), some (.ptr 0 0), some (.ptr 1 0), some (.ptr 2 0), some (.ptr 3 0), some (.ptr 4 0), some (.ptr 5 0), some (.ptr 6 0), t9, t10, none, none, none, none, none, none, none, none, none, none, none, t22, none, none, none, none, none, none, t29, none, none, none, none, none, none, none, none, none, none, none, none, none, none, none, none, none, none, none, none, none, none, none, none, none, none, none, none, none, none, none, none, none, none, none, none, none, none, none, none, none, none, none, none, none, none, none, none, none, none, none, none, none, none, none, none, none, none, none, none, none, none, none, none, none]
noncomputable def mulM (f g X Y l : Nat → Int) : List Blk := [⟨[.arr .u64 8 f], 76⟩, ⟨[.arr .u64 8 g], 76⟩, ⟨[.arr .u64 8 fun _ => 0], 76⟩, ⟨[.bool false], 4⟩, ⟨[.arr .u64 8 X], 107⟩, ⟨[.arr .u64 8 Y], 107⟩, ⟨[.arr .u64 8 l], 107⟩]
abbrev mulD : List (FuncId × List AV) := [(127, [.ptr 2 0, .ptr 3 0])]
abbrev unfitV : AV := .iface 163 (.agg [])
noncomputable def mulL (i : Nat) : Option DM := if i = 2 then some (.quiet 8) else if i = 25 then some (.quiet 8) else none
noncomputable def mulSt : ST := stOf [(73, pureS sizeS), (128, pureS mul64S), (129, pureS add64S), (74, pureS negS), (77, pureS signedS)]
noncomputable def mulOut : Code := match Tryz.f69.body with | some (.seq _ (.seq _ (.seq _ (.seq _ (.seq (.seq _ (.block _ (.loop c))) _))))) => c | _ => .skip
noncomputable def mulIn : Code := match mulOut with | .seq _ (.seq _ (.seq (.block _ (.seq _ (.seq _ (.seq _ (.seq (.seq _ (.block _ (.loop c))) _))))) _)) => c | _ => .skip
theorem mulIn_ne : mulIn ≠ .skip := by unfold mulIn mulOut; simp [Tryz.f69]
set_option maxHeartbeats 4000000 in
theorem mul_in {f g X Y : Nat → Int} (hX : R8 X) (hY : R8 Y) {i : Nat} (hi : i < 8) {L0 : Int} (hL : L0 = lowU X i * uval Y) {Q : Ex → St → Prop}
    (hQ : ∀ (ts : List AV) (l : Nat → Int) (c : Int), R8 l → 0 ≤ c → c < 18446744073709551616 → uval l + c * 18446744073709551616 ^ (i + 8) = L0 + X i * 18446744073709551616 ^ i * uval Y →
      Fits (mulP f g (some (.int .i64 i)) (some (.int .u64 c)) (some (.int .i64 i)) none) ts → Q (.exit 2) ⟨ts, mulM f g X Y l, mulD⟩)
    (hP : 2 * K5 ≤ uval X * uval Y → ∀ (ts : List AV) (l : Nat → Int), Fits (mulP f g none none none none) ts → Q (.pan unfitV) ⟨ts, mulM f g X Y l, mulD⟩)
    {l0 : Nat → Int} (h0 : R8 l0) (hl0 : uval l0 = L0) {ts : List AV}
    (hf0 : Fits (mulP f g (some (.int .i64 i)) (some (.int .u64 0)) (some (.int .i64 i)) (some (.int .i64 0))) ts) :
    Good (loopA (exec Tryz.T mulSt mulL 9 mulIn) 9 ⟨ts, mulM f g X Y l0, mulD⟩) Q := by
  refine loop_rule (fun n s => ∃ k : Nat, k + n = 8 ∧ ∃ (l : Nat → Int) (c : Int), R8 l ∧ 0 ≤ c ∧ c < 18446744073709551616 ∧ (8 < i + k → c = 0) ∧ uval l + c * 18446744073709551616 ^ (i + k) = L0 + X i * 18446744073709551616 ^ i * lowU Y k ∧
      Fits (mulP f g (some (.int .i64 i)) (some (.int .u64 c)) (some (.int .i64 i)) (some (.int .i64 k))) s.ts ∧ s.m = mulM f g X Y l ∧ s.df = mulD) ?_ 9 8 _ (by omega)
    ⟨0, rfl, l0, 0, h0, by omega, by omega, by omega, by simp [lowU, hl0], hf0, rfl, rfl⟩
  rintro n ⟨ts, mm, df⟩ ⟨k, hkn, l, c, hl, hc0, hc1, hcz, hval, hfit, hm', hd⟩
  simp only at hfit hm' hd
  subst hm' hd
  obtain ⟨t, rfl⟩ := fits_of hfit 0
  by_cases hk : k < 8
  · have hk1 : (k : Int) < 8 := by omega
    have hk2 : (0 : Int) ≤ k := by omega
    have hi1 : (i : Int) < 8 := by omega
    have hi2 : (0 : Int) ≤ i := by omega
    have w1 : IntKind.i64.wrap ((i : Int) + k) = i + k := wrap_i64_in (by omega) (by omega)
    have w2 : IntKind.i64.wrap ((k : Int) + 1) = k + 1 := wrap_i64_in (by omega) (by omega)
    have n1 : ((i : Int) + k).toNat = i + k := by omega
    have g1 : (0 : Int) ≤ i + k := by omega
    have hx := hX i hi; have hy := hY k hk
    by_cases hik : i + k < 8
    · have hl' := hl (i + k) hik
      obtain ⟨m1, m2, m3, m4, m5, m6, m7⟩ := mul_step hx hy ⟨hc0, hc1⟩ hl'
      have hs := mul_in_step hik hval m3
      have hr := R8_upd hl (i := i + k) (v := (l (i + k) + (X i * Y k + c)) % 18446744073709551616) (by omega) (by omega)
      have g2 : (i : Int) + k < 8 := by omega
      have g3 : ¬ (8 : Int) ≤ i + k := by omega
      have q1 : 0 ≤ X i * Y k % 18446744073709551616 := by omega
      have q2 : 0 ≤ (X i * Y k + c) % 18446744073709551616 := by omega
      simp [mulIn, mulOut, Tryz.f69, mulP, mulM, mulSt, mulL, hk, hi, hk1, hk2, hi1, hi2, w1, w2, n1, g1, g2, g3, hik, hx, hy, hc0, hl', q1, q2, m4, m5, m6, m7]
      exact ⟨n - 1, by omega, k + 1, by omega, _, hr, _, m6, m7, fun h => absurd h (by omega), hs, ⟨rfl, by omega⟩, rfl⟩
    · have g2 : (8 : Int) ≤ i + k := by omega
      have p0 := Int.mul_nonneg hx.1 hy.1
      by_cases hz : X i * Y k + c = 0
      · have hc : c = 0 := by omega
        have hp : X i * Y k = 0 := by omega
        subst hc
        have hs : uval l = L0 + X i * 18446744073709551616 ^ i * lowU Y (k + 1) := by
          have : X i * 18446744073709551616 ^ i * (Y k * 18446744073709551616 ^ k) = X i * Y k * (18446744073709551616 ^ i * 18446744073709551616 ^ k) := by grind
          rw [lowU, Int.mul_add, this, hp]
          omega
        simp [mulIn, mulOut, Tryz.f69, mulP, mulM, mulSt, mulL, hk, hi, hk1, hk2, hi1, hi2, w1, w2, g2, hx, hy, hp]
        exact ⟨n - 1, by omega, k + 1, by omega, l, hl, 0, by omega, by omega, fun _ => rfl, by omega, ⟨rfl, by omega⟩, rfl⟩
      · have hfit : 2 * K5 ≤ uval X * uval Y := by
          refine mul_over (l := uval l) (c := c + X i * Y k) hX hY hi (u := lowU Y (k + 1)) (lowU_le hY (by omega)) (e := i + k) (by omega) hL (uval_bound hl).1 ?_ (by omega)
          rw [lowU, Int.mul_add, Int.add_mul]
          have : X i * 18446744073709551616 ^ i * (Y k * 18446744073709551616 ^ k) = X i * Y k * 18446744073709551616 ^ (i + k) := by rw [Int.pow_add]; grind
          omega
        have hP' := hP hfit
        simp only [mulM, mulD] at hP'
        have g3 : ¬ (i : Int) + k < 8 := by omega
        obtain ⟨m1, m2, -, m4, m5, -, -⟩ := mul_step hx hy ⟨hc0, hc1⟩ (l := 0) (by omega)
        have q1 : 0 ≤ X i * Y k % 18446744073709551616 := by omega
        by_cases hlow : (X i * Y k + c) % 18446744073709551616 = 0
        · have hhigh : ¬ X i * Y k / 18446744073709551616 + (X i * Y k % 18446744073709551616 + c) / 18446744073709551616 = 0 := by omega
          simp [mulIn, mulOut, Tryz.f69, mulP, mulM, mulSt, mulL, hk, hi, hk1, hk2, hi1, hi2, w1, g2, hx, hy, hc0, q1, m4, m5, hlow, hhigh]
          exact hP' _ _ (by simp [mulP])
        · have hb : ((X i * Y k + c) % 18446744073709551616 != 0) = true := by simp [hlow]
          simp [mulIn, mulOut, Tryz.f69, mulP, mulM, mulSt, mulL, hk, hi, hk1, hk2, hi1, hi2, w1, g2, hx, hy, hc0, q1, m4, m5, hb]
          exact hP' _ _ (by simp [mulP])
  · have hk1 : ¬ (k : Int) < 8 := by omega
    have hk8 : k = 8 := by omega
    subst hk8
    have hQ' := hQ
    simp only [mulM, mulD] at hQ'
    simp [mulIn, mulOut, Tryz.f69, mulP, mulM, mulSt]
    refine hQ' _ l c hl hc0 hc1 (by rw [lowU_8] at hval; exact hval) ?_
    simp [mulP]
end Go.X
end

section
namespace Go.X
open Go.Proofs
attribute [simp] Tryz.T_20
attribute [local irreducible] Good
set_option maxHeartbeats 4000000 in
theorem mul_out {f g X Y : Nat → Int} (hX : R8 X) (hY : R8 Y) {Q : Ex → St → Prop}
    (hQ : ∀ (ts : List AV) (l : Nat → Int), R8 l → uval l = uval X * uval Y → Fits (mulP f g none none none none) ts → Q (.exit 0) ⟨ts, mulM f g X Y l, mulD⟩)
    (hP : 2 * K5 ≤ uval X * uval Y → ∀ (ts : List AV) (l : Nat → Int), Fits (mulP f g none none none none) ts → Q (.pan unfitV) ⟨ts, mulM f g X Y l, mulD⟩)
    {ts : List AV} (hf0 : Fits (mulP f g none none (some (.int .i64 0)) none) ts) :
    Good (loopA (exec Tryz.T mulSt mulL 9 mulOut) 9 ⟨ts, mulM f g X Y (fun _ => 0), mulD⟩) Q := by
  refine loop_rule (fun n s => ∃ i : Nat, i + n = 8 ∧ ∃ l : Nat → Int, R8 l ∧ uval l = lowU X i * uval Y ∧
      Fits (mulP f g none none (some (.int .i64 i)) none) s.ts ∧ s.m = mulM f g X Y l ∧ s.df = mulD) ?_ 9 8 _ (by omega)
    ⟨0, rfl, fun _ => 0, R8_zero, by simp [lowU, zero_val], hf0, rfl, rfl⟩
  rintro n ⟨ts, mm, df⟩ ⟨i, hin, l, hl, hval, hfit, hm', hd⟩
  simp only at hfit hm' hd
  subst hm' hd
  obtain ⟨t, rfl⟩ := fits_of hfit 0
  by_cases hi : i < 8
  · have hi1 : (i : Int) < 8 := by omega
    have hi2 : (0 : Int) ≤ i := by omega
    have w2 : IntKind.i64.wrap ((i : Int) + 1) = i + 1 := wrap_i64_in (by omega) (by omega)
    have hx := hX i hi
    by_cases hz : X i = 0
    · simp [mulOut, Tryz.f69, mulP, mulM, hi, hi1, hi2, w2, hz]
      exact ⟨n - 1, by omega, i + 1, by omega, l, hl, by rw [lowU, hz, hval]; simp, by omega, rfl⟩
    · simp [-loopA_succ, mulOut, Tryz.f69, mulP, mulM, hi, hi1, hi2, hz]
      simp only [good_bind, good_unblock]
      refine mul_in hX hY hi hval (fun ts l c hl hc0 hc1 hv hfit => ?_) (fun hp ts l hfit => ?_) hl rfl ?_
      · obtain ⟨t, rfl⟩ := fits_of hfit 0
        by_cases hc : c = 0
        · subst hc
          simp [mulP, mulM, w2]
          exact ⟨n - 1, by omega, i + 1, by omega, l, hl, by rw [lowU, Int.add_mul]; omega, by omega, rfl⟩
        · have hp := mul_over hX hY hi (Int.le_refl _) (show 8 ≤ i + 8 by omega) hval (uval_bound hl).1 hv (by omega)
          have hP' := hP hp
          simp only [mulM, mulD] at hP'
          simp [mulP, mulM, hc]
          exact hP' _ _ (by simp [mulP])
      · have hP' := hP hp
        simp only [mulM, mulD] at hP'
        simp [mulM]
        exact hP' _ _ hfit
      · simp [mulP]
  · have hi1 : ¬ (i : Int) < 8 := by omega
    have hi8 : i = 8 := by omega
    subst hi8
    have hQ' := hQ
    simp only [mulM, mulD] at hQ'
    simp [mulOut, Tryz.f69, mulP, mulM]
    refine hQ' _ l hl (by rw [lowU_8] at hval; exact hval) ?_
    simp [mulP]
noncomputable def mulS : List AV → PR
  | [.arr .u64 8 f, .arr .u64 8 g] => if R8 f ∧ R8 g then .val (fitV (sval f * sval g)) else .fail
  | _ => .fail
@[simp] theorem mulS_val {f : Nat → Int} {g : Nat → Int} (h : R8 f ∧ R8 g) : mulS [.arr .u64 8 f, .arr .u64 8 g] = .val (fitV (sval f * sval g)) := if_pos h
set_option maxHeartbeats 4000000 in
theorem mul_ok : SumOk Tryz.prog 69 (pureS mulS) := by
  refine sum_df (L := mulL) (n := 9) (S := mulSt) drawS Tryz.T_ok (stOf_ok (by simp [size_ok, mul64_ok, Add64_ok, negative_ok, signed_ok])) Tryz.func69 rfl (by kernel_rfl) (by kernel_rfl)
    Tryz.func127 (by kernel_rfl) rfl rfl (by kernel_rfl) ?_
    (by intro args v h; unfold mulS at h; split at h <;> (try split at h) <;> simp at h)
  intro args v h
  unfold mulS at h
  split at h
  · rename_i f g
    split at h
    · rename_i hc
      obtain ⟨hf, hg⟩ := hc
      cases h
      refine ⟨by simp, by simp [fitV], by simp [fitV], ?_⟩
      have sf := R8_size hf; have sg := R8_size hg
      have ef := size_val hf; have eg := size_val hg
      simp [-loopA_succ, Tryz.f69, hf, hg, mulSt, mulL]
      simp only [good_bind, good_unblock]
      refine mul_out sf sg (fun ts l hl hval hfit => ?_) (fun hp ts l hfit => ?_) ?_
      · obtain ⟨t, rfl⟩ := fits_of hfit 0
        by_cases h1 : sval f < 0 <;> by_cases h2 : sval g < 0
        · have hpr : sval f * sval g = uval (sizeF f) * uval (sizeF g) := by rw [ef, eg]; simp only [h1, h2, if_true, Int.neg_mul, Int.mul_neg, Int.neg_neg]
          by_cases hi : InW (uval (sizeF f) * uval (sizeF g))
          · simp [mulP, mulM, mulL, clo, EndsD, hf, hg, hl, neg_sval hf, neg_sval hg, h1, h2, signedS_eq, hval, hi]
            rw [hpr]
            simp only [fitV, hi, if_true, decide_true]
            exact Eqv.refl _
          · simp [mulP, mulM, mulL, clo, EndsD, hf, hg, hl, neg_sval hf, neg_sval hg, h1, h2, signedS_eq, hval, hi]
            rw [hpr]
            simp only [fitV, hi, if_false, decide_false]
            exact eqv_tup2 eqvW_zero (Eqv.refl _)
        · have hpr : sval f * sval g = -(uval (sizeF f) * uval (sizeF g)) := by rw [ef, eg]; simp only [h1, h2, if_true, if_false, Int.neg_mul, Int.neg_neg]
          by_cases hi : InW (-(uval (sizeF f) * uval (sizeF g)))
          · simp [mulP, mulM, mulL, clo, EndsD, hf, hg, hl, neg_sval hf, neg_sval hg, h1, h2, signedS_eq, hval, hi]
            rw [hpr]
            simp only [fitV, hi, if_true, decide_true]
            exact Eqv.refl _
          · simp [mulP, mulM, mulL, clo, EndsD, hf, hg, hl, neg_sval hf, neg_sval hg, h1, h2, signedS_eq, hval, hi]
            rw [hpr]
            simp only [fitV, hi, if_false, decide_false]
            exact eqv_tup2 eqvW_zero (Eqv.refl _)
        · have hpr : sval f * sval g = -(uval (sizeF f) * uval (sizeF g)) := by rw [ef, eg]; simp only [h1, h2, if_true, if_false, Int.mul_neg, Int.neg_neg]
          by_cases hi : InW (-(uval (sizeF f) * uval (sizeF g)))
          · simp [mulP, mulM, mulL, clo, EndsD, hf, hg, hl, neg_sval hf, neg_sval hg, h1, h2, signedS_eq, hval, hi]
            rw [hpr]
            simp only [fitV, hi, if_true, decide_true]
            exact Eqv.refl _
          · simp [mulP, mulM, mulL, clo, EndsD, hf, hg, hl, neg_sval hf, neg_sval hg, h1, h2, signedS_eq, hval, hi]
            rw [hpr]
            simp only [fitV, hi, if_false, decide_false]
            exact eqv_tup2 eqvW_zero (Eqv.refl _)
        · have hpr : sval f * sval g = uval (sizeF f) * uval (sizeF g) := by rw [ef, eg]; simp only [h1, h2, if_false]
          by_cases hi : InW (uval (sizeF f) * uval (sizeF g))
          · simp [mulP, mulM, mulL, clo, EndsD, hf, hg, hl, neg_sval hf, neg_sval hg, h1, h2, signedS_eq, hval, hi]
            rw [hpr]
            simp only [fitV, hi, if_true, decide_true]
            exact Eqv.refl _
          · simp [mulP, mulM, mulL, clo, EndsD, hf, hg, hl, neg_sval hf, neg_sval hg, h1, h2, signedS_eq, hval, hi]
            rw [hpr]
            simp only [fitV, hi, if_false, decide_false]
            exact eqv_tup2 eqvW_zero (Eqv.refl _)
      · have hn : ¬ InW (sval f * sval g) := by
          have hK := K5_pos
          by_cases h1 : sval f < 0 <;> by_cases h2 : sval g < 0 <;> simp only [h1, h2, if_true, if_false] at ef eg
          · have : sval f * sval g = uval (sizeF f) * uval (sizeF g) := by rw [ef, eg]; simp only [Int.neg_mul, Int.mul_neg, Int.neg_neg]
            unfold InW; omega
          · have : sval f * sval g = -(uval (sizeF f) * uval (sizeF g)) := by rw [ef, eg]; simp only [Int.neg_mul, Int.neg_neg]
            unfold InW; omega
          · have : sval f * sval g = -(uval (sizeF f) * uval (sizeF g)) := by rw [ef, eg]; simp only [Int.mul_neg, Int.neg_neg]
            unfold InW; omega
          · have : sval f * sval g = uval (sizeF f) * uval (sizeF g) := by rw [ef, eg]
            unfold InW; omega
        obtain ⟨t, rfl⟩ := fits_of hfit 0
        simp [mulP, mulM, clo, EndsD]
        simp only [fitV, hn, if_false, decide_false]
        exact eqv_tup2 eqvW_zero (Eqv.refl _)
      · simp [mulP]
    · simp at h
  · simp at h
end Go.X
end

section
namespace Go.X
open Go.Proofs
attribute [local irreducible] Good
noncomputable def shlP (f : Nat → Int) (n : Int) (t7 : Option AV) : List (Option AV) := [some (.arr .u64 8 f), some (.int .i64 n), some (.ptr 0 0), none, some (.ptr 1 0), some (.bool false), some (.ptr 2 0), t7, none, none, none, none, none, none, none, none, none, none, none, none, none, none, none, none, none, none, none, none, none, none, none, none, none, none, none, none, none, none, none, none, none, none, none, none, none, none, none, none, none, none, none, none, none, none, none, none, none, none, none, none, none, none, none, none, none, none, none, none, none]
noncomputable def shlM (f g : Nat → Int) : List Blk := [⟨[.arr .u64 8 f], 76⟩, ⟨[.arr .u64 8 fun _ => 0], 76⟩, ⟨[.arr .u64 8 g], 107⟩]
def shlL (i : Nat) : Option DM := if i = 15 then some (.quiet 14) else none
noncomputable def shlLoop : Code := match Tryz.f59.body with | some (.seq _ (.seq _ (.seq _ (.seq _ (.seq _ (.seq (.seq _ (.block _ (.loop c))) _)))))) => c | _ => .skip
theorem upd_same {g : Nat → Int} {i : Nat} {v : Int} : upd g i v i = v := by simp [upd]
theorem upd_twice {g : Nat → Int} {i : Nat} {u v : Int} : upd (upd g i u) i v = upd g i v := by
  funext j; unfold upd; split <;> rfl
set_option maxHeartbeats 4000000 in
theorem shl_loop {f : Nat → Int} (hf : R8 f) {q r : Nat} (hq : q < 8) (hr : r < 64) {n : Int} (hn : n = 64 * (q : Int) + r) {Q : Ex → St → Prop}
    (hQ : ∀ (ts : List AV) (g : Nat → Int), (∀ j, j < 8 → g j = leftF f q r j) → Fits (shlP f n none) ts → Q (.exit 0) ⟨ts, shlM f g, []⟩)
    {ts : List AV} (h0 : Fits (shlP f n (some (.int .i64 7))) ts) :
    Good (loopA (exec Tryz.T (stOf [(80, pureS shrS)]) shlL 9 shlLoop) 9 ⟨ts, shlM f (fun _ => 0), []⟩) Q := by
  refine loop_rule (fun k s => k ≤ 8 ∧ ∃ g : Nat → Int, (∀ j, k ≤ j → j < 8 → g j = leftF f q r j) ∧ (∀ j, j < k → g j = 0) ∧ Fits (shlP f n (some (.int .i64 ((k : Int) - 1)))) s.ts ∧ s.m = shlM f g ∧ s.df = []) ?_ 9 8 _ (by omega)
    ⟨by omega, fun _ => 0, fun j h1 h2 => by omega, fun _ _ => rfl, by simpa using h0, rfl, rfl⟩
  rintro k ⟨ts, mm, df⟩ ⟨hk8, g, hg, hg0, hfit, hm', hd⟩
  simp only at hfit hm' hd
  subst hm' hd
  obtain ⟨l, rfl⟩ := fits_of hfit 0
  have td : n.tdiv 64 = q := by rw [Int.tdiv_eq_ediv_of_nonneg (by omega)]; omega
  have tm : n.tmod 64 = r := by rw [Int.tmod_eq_emod_of_nonneg (by omega)]; omega
  by_cases hk : 0 < k
  · obtain ⟨i, rfl⟩ : ∃ i, k = i + 1 := ⟨k - 1, by omega⟩
    have e1 : ((i + 1 : Nat) : Int) - 1 = i := by omega
    have hi1 : (i : Int) < 8 := by omega
    have hi2 : (0 : Int) ≤ i := by omega
    have hi : i < 8 := by omega
    have w0 : IntKind.i64.wrap (q : Int) = q := wrap_i64_in (by omega) (by omega)
    have w1 : IntKind.i64.wrap ((i : Int) - q) = i - q := wrap_i64_in (by omega) (by omega)
    have w3 : IntKind.i64.wrap ((i : Int) - 1) = i - 1 := wrap_i64_in (by omega) (by omega)
    have g1 : (i : Int) - q < 8 := by omega
    have n1 : ((i : Int) - q).toNat = i - q := by omega
    have hrn : ¬ (r : Int) < 0 := by omega
    have g0 := hg0 i (by omega)
    have m8 : i - q < 8 := by omega
    have m9 : i - q - 1 < 8 := by omega
    have next : ∀ v, v = leftF f q r i → (∀ j, i ≤ j → j < 8 → upd g i v j = leftF f q r j) ∧ ∀ j, j < i → upd g i v j = 0 := by
      intro v hv
      refine ⟨fun j h1 h2 => ?_, fun j h1 => ?_⟩
      · unfold upd
        by_cases hj : j = i
        · rw [if_pos hj, hj, hv]
        · rw [if_neg hj]; exact hg j (by omega) h2
      · unfold upd
        rw [if_neg (by omega)]
        exact hg0 j (by omega)
    by_cases hqi : q ≤ i
    · have c0 : (q : Int) ≤ i := by omega
      by_cases hr0 : 0 < r ∧ q < i
      · obtain ⟨hr0, hqi'⟩ := hr0
        have hr1 : (0 : Int) < r := by omega
        have wt : IntKind.i64.wrap (64 - (r : Int)) = 64 - r := wrap_i64_in (by omega) (by omega)
        have gt : (64 - (r : Int)).toNat = 64 - r := by omega
        have ht : ¬ (64 - (r : Int)) < 0 := by omega
        have w2 : IntKind.i64.wrap ((i : Int) - q - 1) = i - q - 1 := wrap_i64_in (by omega) (by omega)
        have g3 : (0 : Int) ≤ i - q - 1 := by omega
        have g4 : (i : Int) - q - 1 < 8 := by omega
        have n2 : ((i : Int) - q - 1).toNat = i - q - 1 := by omega
        have c1 : (q : Int) < i := by omega
        have c2 : (1 : Int) ≤ i - q := by omega
        have ff := hf (i - q - 1) (by omega)
        have ho := or_left ff.1 ff.2 (y := f (i - q)) hr0 hr
        simp [shlLoop, shlP, shlM, shlL, Tryz.f59, hi1, hi2, td, tm, w0, w1, w2, w3, g1, g4, n1, n2, wt, gt, ht, hrn, hr0, hi, c0, c1, m8, m9, c2]
        obtain ⟨h1, h2⟩ := next _ (show f (i - q) * 2 ^ r % 18446744073709551616 + f (i - q - 1) / 2 ^ (64 - r) = leftF f q r i by unfold leftF; rw [if_neg (by omega), if_pos ⟨hr0, hqi'⟩])
        exact ⟨i, by omega, by omega, _, h1, h2, rfl, by rw [upd_same, upd_twice, ho]⟩
      · have sh : shlA .u64 (f (i - q)) r = f (i - q) * 2 ^ r % 18446744073709551616 := by
          simp only [shlA, IntKind.bits, wrap_u64_mod]
          rw [show min r 64 = r from by omega]
        obtain ⟨h1, h2⟩ := next _ (show f (i - q) * 2 ^ r % 18446744073709551616 = leftF f q r i by unfold leftF; rw [if_neg (by omega), if_neg hr0])
        by_cases hr1 : 0 < r
        · have hr2 : (0 : Int) < r := by omega
          have hqe : ¬ q < i := fun e => hr0 ⟨hr1, e⟩
          have c1 : ¬ (q : Int) < i := by omega
          simp [shlLoop, shlP, shlM, Tryz.f59, hi1, hi2, td, tm, w0, w1, w3, g1, n1, hrn, hi, m8, hr1, c0, c1]
          exact ⟨i, by omega, by omega, _, h1, h2, rfl, by rw [sh]⟩
        · have hr2 : ¬ (0 : Int) < r := by omega
          simp [shlLoop, shlP, shlM, Tryz.f59, hi1, hi2, td, tm, w0, w1, w3, g1, n1, hrn, hi, m8, hr1, c0]
          exact ⟨i, by omega, by omega, _, h1, h2, rfl, by rw [sh]⟩
    · have c0 : ¬ (q : Int) ≤ i := by omega
      obtain ⟨h1, h2⟩ := next 0 (show 0 = leftF f q r i by unfold leftF; rw [if_pos (by omega)])
      have hid : upd g i 0 = g := by
        funext j; unfold upd; split
        · rename_i e; rw [e, g0]
        · rfl
      rw [hid] at h1 h2
      simp [shlLoop, shlP, shlM, Tryz.f59, hi2, td, w0, w1, w3, c0]
      exact ⟨i, by omega, by omega, g, h1, h2, rfl, rfl⟩
  · have : k = 0 := by omega
    subst this
    simp [shlLoop, shlP, shlM, Tryz.f59]
    have hQ' := hQ
    simp only [shlM] at hQ'
    refine hQ' _ g (fun j hj => hg j (by omega) hj) ?_
    simp [shlP]
noncomputable def shlV (a n : Int) : AV := if n < 0 then .tup [W 0, .bool false] else fitV (a * 2 ^ n.toNat)
noncomputable def shlS : List AV → PR
  | [.arr .u64 8 f, .int .i64 n] => if R8 f ∧ n < 9223372036854775808 then .val (shlV (sval f) n) else .fail
  | _ => .fail
@[simp] theorem shlS_val {f : Nat → Int} {n : Int} (h : R8 f ∧ n < 9223372036854775808) : shlS [.arr .u64 8 f, .int .i64 n] = .val (shlV (sval f) n) := if_pos h
theorem pow_2_511 : (2 : Int) ^ 511 = K5 := by
  have h := K5_pow
  rw [show (512 : Nat) = 511 + 1 from rfl, Int.pow_succ] at h
  generalize (2 : Int) ^ 511 = a at *
  omega
theorem uval_congr {f g : Nat → Int} (h : ∀ j, j < 8 → f j = g j) : uval f = uval g := by
  unfold uval
  rw [h 0 (by omega), h 1 (by omega), h 2 (by omega), h 3 (by omega), h 4 (by omega), h 5 (by omega), h 6 (by omega), h 7 (by omega)]
theorem InW_ediv {z d : Int} (h : InW z) (hd : 0 < d) : InW (z / d) := by
  obtain ⟨h1, h2⟩ := h
  have hK := K5_pos
  by_cases hz : 0 ≤ z
  · have := Int.ediv_nonneg hz (Int.le_of_lt hd)
    have := Int.ediv_le_self d hz
    exact ⟨by omega, by omega⟩
  · have : z / d < 0 := Int.ediv_neg_of_neg_of_pos (by omega) hd
    have : z ≤ z / d := by
      apply (Int.le_ediv_iff_mul_le hd).2
      have := Int.mul_le_mul_of_nonpos_left (a := z) (by omega) (show 1 ≤ d by omega)
      omega
    exact ⟨by omega, by omega⟩
theorem shl_far {a : Int} (ha : a ≠ 0) {n : Nat} (hn : 511 < n) : ¬ InW (a * 2 ^ n) := by
  have h1 : (2 : Int) ^ 512 ≤ 2 ^ n := pow_le (by omega)
  have h2 := K5_pow
  have hK := K5_pos
  unfold InW
  by_cases h : 0 < a
  · have := Int.mul_le_mul_of_nonneg_right (show 1 ≤ a by omega) (show (0 : Int) ≤ 2 ^ n by omega)
    omega
  · have := Int.mul_le_mul_of_nonneg_right (show a ≤ -1 by omega) (show (0 : Int) ≤ 2 ^ n by omega)
    omega
theorem shl_back {f : Nat → Int} (_ : R8 f) {n : Nat} (hn : n ≤ 511) {p : Nat → Int} (hp : R8 p) (hv : ∃ k, uval p = uval f * 2 ^ n + 2 * K5 * k) : (sval p / 2 ^ n = sval f ↔ InW (sval f * 2 ^ n)) ∧ (InW (sval f * 2 ^ n) → sval p = sval f * 2 ^ n) := by
  have h2 : (0 : Int) < 2 ^ n := Int.pow_pos (by decide)
  have h3 : (2 : Int) ^ n ≤ 2 ^ 511 := pow_le hn
  rw [pow_2_511] at h3
  obtain ⟨k, hk⟩ := hv
  obtain ⟨k1, hk1⟩ := sval_uval f
  obtain ⟨k2, hk2⟩ := sval_uval p
  have rp := sval_range hp
  have e : sval p = sval f * 2 ^ n + 2 * K5 * (k + k1 * 2 ^ n - k2) := by
    have : uval f * 2 ^ n = sval f * 2 ^ n + 2 * K5 * (k1 * 2 ^ n) := by rw [hk1]; grind
    rw [this] at hk
    have e2 : 2 * K5 * (k + k1 * 2 ^ n - k2) = 2 * K5 * k + 2 * K5 * (k1 * 2 ^ n) - 2 * K5 * k2 := by grind
    rw [e2]
    omega
  generalize k + k1 * 2 ^ n - k2 = j at e
  have hK := K5_pos
  have zero : ∀ d : Int, -(2 * K5) < 2 * K5 * d → 2 * K5 * d < 2 * K5 → d = 0 := by
    intro d h1 h2
    rcases Int.lt_trichotomy d 0 with h | h | h
    · have := Int.mul_le_mul_of_nonneg_left (show d ≤ -1 by omega) (show (0 : Int) ≤ 2 * K5 by omega)
      omega
    · exact h
    · have := Int.mul_le_mul_of_nonneg_left (show 1 ≤ d by omega) (show (0 : Int) ≤ 2 * K5 by omega)
      omega
  have fits : InW (sval f * 2 ^ n) → sval p = sval f * 2 ^ n := by
    intro hi
    unfold InW at hi
    have := zero j (by omega) (by omega)
    rw [e, this]; omega
  refine ⟨⟨fun h => ?_, fun h => ?_⟩, fits⟩
  · have h4 := Int.emod_nonneg (sval p) (show (2 : Int) ^ n ≠ 0 by omega)
    have h5 := Int.emod_lt_of_pos (sval p) h2
    have h6 := Int.mul_ediv_add_emod (sval p) (2 ^ n)
    rw [h, Int.mul_comm] at h6
    have := zero j (by omega) (by omega)
    rw [this] at e
    unfold InW
    omega
  · rw [fits h, Int.mul_ediv_cancel _ (by omega)]
set_option maxHeartbeats 4000000 in
theorem shl_ok : SumOk Tryz.prog 59 (pureS shlS) := by
  refine sum_fn (L := shlL) (n := 9) (S := stOf [(80, pureS shrS)]) drawS Tryz.T_ok (stOf_ok (by simp [shr_ok])) Tryz.func59 rfl (by kernel_rfl) (by kernel_rfl) ?_
    (by intro args v h; unfold shlS at h; split at h <;> (try split at h) <;> simp at h)
  intro args v h
  unfold shlS at h
  split at h
  · rename_i f n
    split at h
    · rename_i hc
      obtain ⟨hf, hn⟩ := hc
      cases h
      refine ⟨by simp, by unfold shlV fitV; split <;> simp, by unfold shlV fitV; split <;> simp, ?_⟩
      by_cases hneg : n < 0
      · simp [Tryz.f59, hneg, shlV]
        exact eqv_tup2 eqvW_zero (Eqv.refl _)
      · by_cases hz : sval f = 0
        · have hi : InW 0 := by have := K5_pos; unfold InW; omega
          simp [Tryz.f59, hneg, shlV, eqArr_iff hf R8_zero, sval_zero, hz, fitV, hi]
          exact eqv_tup2 (eqvW_of hf hz) (Eqv.refl _)
        · by_cases hb : 511 < n
          · have hi : ¬ InW (sval f * 2 ^ n.toNat) := shl_far hz (by omega)
            simp [Tryz.f59, hneg, hb, shlV, eqArr_iff hf R8_zero, sval_zero, hz, fitV, hi]
            exact eqv_tup2 eqvW_zero (Eqv.refl _)
          · obtain ⟨q, r, hq, hr, hqr⟩ : ∃ q r : Nat, q < 8 ∧ r < 64 ∧ n = 64 * (q : Int) + r := ⟨(n / 64).toNat, (n % 64).toNat, by omega, by omega, by omega⟩
            simp [-loopA_succ, Tryz.f59, hneg, hb, eqArr_iff hf R8_zero, sval_zero, hz]
            simp only [good_bind, good_unblock]
            refine shl_loop hf hq hr hqr (fun ts g hg hfit => ?_) ?_
            · obtain ⟨l, rfl⟩ := fits_of hfit 0
              have hg' : ∀ j, j < 8 → g j = limb (uval f * 2 ^ n.toNat) j := fun j hj => by rw [hg j hj, leftF_limb hf hr hj, show n.toNat = 64 * q + r from by omega]
              have hgr : R8 g := fun j hj => by rw [hg' j hj]; exact limb_range _ _
              have hu : uval g = uval (limb (uval f * 2 ^ n.toNat)) := uval_congr hg'
              have hm : min n 511 = n := by omega
              obtain ⟨b1, b2⟩ := shl_back hf (n := n.toNat) (by omega) hgr ⟨-(uval f * 2 ^ n.toNat / (2 * K5)), by
                rw [hu, uval_limb, Int.emod_def]; grind⟩
              have hw := InW_ediv (sval_range hgr) (show (0 : Int) < 2 ^ n.toNat from Int.pow_pos (by decide))
              have hv := sval_limb hw
              by_cases hi : InW (sval f * 2 ^ n.toNat)
              · simp [shlP, shlM, shlL, hgr, hn, hm, eqArr_iff (R8_limb _) hf, hv, b1, hi, shlV, hneg, fitV]
                exact eqv_tup2 (eqvW_of hgr (b2 hi)) (Eqv.refl _)
              · simp [shlP, shlM, shlL, hgr, hn, hm, eqArr_iff (R8_limb _) hf, hv, b1, hi, shlV, hneg, fitV]
                exact eqv_tup2 eqvW_zero (Eqv.refl _)
            · simp [shlP]
    · simp at h
  · simp at h
end Go.X
end

section
namespace Go.X
open Go.Proofs
attribute [local irreducible] Good
noncomputable def rootI (a : Int) : Int := open Classical in if h : ∃ r : Int, 0 ≤ r ∧ r * r ≤ a ∧ a < (r + 1) * (r + 1) then Classical.choose h else 0
theorem root_one {a r s : Int} (hr : 0 ≤ r) (h1 : r * r ≤ a) (h2 : a < (s + 1) * (s + 1)) (hs : 0 ≤ s) : r ≤ s := by
  rcases Int.lt_or_le s r with h | h
  · have := Int.mul_le_mul (show s + 1 ≤ r by omega) (show s + 1 ≤ r by omega) (by omega) hr
    omega
  · exact h
theorem rootI_of {a r : Int} (hr : 0 ≤ r) (h1 : r * r ≤ a) (h2 : a < (r + 1) * (r + 1)) : rootI a = r := by
  have h : ∃ r : Int, 0 ≤ r ∧ r * r ≤ a ∧ a < (r + 1) * (r + 1) := ⟨r, hr, h1, h2⟩
  unfold rootI
  rw [dif_pos h]
  obtain ⟨g1, g2, g3⟩ := Classical.choose_spec h
  have := root_one g1 g2 h2 hr
  have := root_one hr h1 g3 g1
  omega
structure Root (a : Int) (f : Nat → Int) (k : Nat) : Prop where
  hf : R8 f
  le : uval f * uval f ≤ a
  lt : a < (uval f + 2 ^ k) * (uval f + 2 ^ k)
  bits : ∃ c, uval f = c * 2 ^ k
theorem pow_2_256 : (2 : Int) ^ 256 * 2 ^ 256 = 2 * K5 := by rw [K5_pow, ← Int.pow_add]
theorem pow_2_pos (n : Nat) : (0 : Int) < 2 ^ n := Int.pow_pos (by decide)
theorem Root.more {a : Int} {f : Nat → Int} {j : Nat} (h : Root a f (j + 1)) (hj : j < 257) (ha : a < K5) : R8 (setF f j) ∧ sval (setF f j) = uval f + 2 ^ j ∧ uval (setF f j) = uval f + 2 ^ j := by
  obtain ⟨c, hc⟩ := h.bits
  obtain ⟨s1, s2⟩ := set_val h.hf (by omega) hc
  have h1 : (2 : Int) ^ j ≤ 2 ^ 256 := pow_le (by omega)
  have h2 := pow_2_256
  have h3 := pow_2_pos 256
  have hp := pow_2_pos j
  have hl := h.le
  have hK := K5_pos
  have u0 := (uval_bound h.hf).1
  have h4 : uval f < 2 ^ 256 := by
    rcases Int.lt_or_le (uval f) (2 ^ 256) with h' | h'
    · exact h'
    · have := Int.mul_le_mul h' h' (by omega) u0
      omega
  have h5 : (2 : Int) ^ 256 * 4 ≤ 2 ^ 256 * 2 ^ 256 := Int.mul_le_mul_of_nonneg_left (by rw [show (4 : Int) = 2 ^ 2 from rfl]; exact pow_le (by omega)) (by omega)
  refine ⟨s1, ?_, s2⟩
  have u := uval_sval s1
  have r := sval_range s1
  have hn : ¬ sval (setF f j) < 0 := by
    intro hn
    rw [if_pos hn] at u
    generalize (2 : Int) ^ 256 = p at *
    generalize (2 : Int) ^ j = q at *
    omega
  rw [if_neg hn] at u
  omega
theorem Root.take {a : Int} {f : Nat → Int} {j : Nat} (h : Root a f (j + 1)) (hj : j < 257) (ha : a < K5) (hge : (uval f + 2 ^ j) * (uval f + 2 ^ j) ≤ a) : Root a (setF f j) j := by
  obtain ⟨h1, -, h3⟩ := h.more hj ha
  obtain ⟨c, hc⟩ := h.bits
  refine ⟨h1, by rw [h3]; exact hge, ?_, ⟨c * 2 + 1, ?_⟩⟩
  · have := h.lt
    rw [Int.pow_succ] at this
    rw [h3, show uval f + 2 ^ j + 2 ^ j = uval f + 2 ^ j * 2 from by omega]
    exact this
  · rw [h3, hc, Int.pow_succ]; grind
theorem Root.pass {a : Int} {f : Nat → Int} {j : Nat} (h : Root a f (j + 1)) (hlt : a < (uval f + 2 ^ j) * (uval f + 2 ^ j)) : Root a f j := by
  obtain ⟨c, hc⟩ := h.bits
  exact ⟨h.hf, h.le, hlt, ⟨c * 2, by rw [hc, Int.pow_succ]; grind⟩⟩
noncomputable def sqrtP (f : Nat → Int) (t5 : Option AV) : List (Option AV) := [some (.arr .u64 8 f), some (.ptr 0 0), some (.ptr 1 0), some (.bool false), some (.ptr 2 0), t5, none, none, none, none, none, none, none, none, none, none, none, none, none, none, none, none, none, none, none, none, none, none, none, none, none, none, none, none, none, none, none, none, none, none, none, none, none, none, none, none, none, none]
noncomputable def sqrtM (f r : Nat → Int) (old : List Blk) : List Blk := ⟨[.arr .u64 8 f], 76⟩ :: ⟨[.arr .u64 8 fun _ => 0], 76⟩ :: ⟨[.arr .u64 8 r], 76⟩ :: old
def sqrtL (i : Nat) : Option DM := if i = 8 then some (.quiet 11) else none
noncomputable def sqrtSt : ST := stOf [(74, pureS negS), (81, pureS bitsS), (69, pureS mulS), (139, pureS cmpS)]
noncomputable def sqrtLoop : Code := match Tryz.f175.body with | some (.seq _ (.seq _ (.seq _ (.seq (.seq _ (.block _ (.loop c))) _)))) => c | _ => .skip
set_option maxHeartbeats 4000000 in
theorem sqrt_loop {f : Nat → Int} (hf : R8 f) {k0 : Nat} (hk0 : k0 ≤ 257) (hr0 : Root (sval f) (fun _ => 0) k0) {Q : Ex → St → Prop}
    (hQ : ∀ (ts : List AV) (r : Nat → Int) (old : List Blk), Root (sval f) r 0 → Fits (sqrtP f none) ts → Q (.exit 0) ⟨ts, sqrtM f r old, []⟩)
    {ts : List AV} (h0 : Fits (sqrtP f (some (.int .i64 ((k0 : Int) - 1)))) ts) :
    Good (loopA (exec Tryz.T sqrtSt sqrtL 259 sqrtLoop) 259 ⟨ts, sqrtM f (fun _ => 0) [], []⟩) Q := by
  refine loop_rule (fun k s => k ≤ 257 ∧ ∃ (r : Nat → Int) (old : List Blk), Root (sval f) r k ∧ Fits (sqrtP f (some (.int .i64 ((k : Int) - 1)))) s.ts ∧ s.m = sqrtM f r old ∧ s.df = []) ?_ 259 k0 _ (by omega)
    ⟨hk0, fun _ => 0, [], hr0, h0, rfl, rfl⟩
  rintro k ⟨ts, mm, df⟩ ⟨hk, r, old, hr, hfit, hm', hd⟩
  simp only at hfit hm' hd
  subst hm' hd
  obtain ⟨l, rfl⟩ := fits_of hfit 0
  have hsf := sval_range hf
  cases k with
  | zero =>
    simp [-loopA_succ, sqrtLoop, sqrtP, sqrtM, Tryz.f175]
    have hQ' := hQ
    simp only [sqrtM] at hQ'
    refine hQ' _ r old hr ?_
    simp [sqrtP]
  | succ j =>
    obtain ⟨p, hp⟩ : ∃ p, p = j / 64 := ⟨_, rfl⟩
    obtain ⟨o, ho⟩ : ∃ o, o = j % 64 := ⟨_, rfl⟩
    have td : (j : Int).tdiv 64 = p := by rw [Int.tdiv_eq_ediv_of_nonneg (by omega)]; omega
    have tm : (j : Int).tmod 64 = o := by rw [Int.tmod_eq_emod_of_nonneg (by omega)]; omega
    have w0 : IntKind.i64.wrap (p : Int) = p := wrap_i64_in (by omega) (by omega)
    have w1 : IntKind.i64.wrap ((j : Int) - 1) = j - 1 := wrap_i64_in (by omega) (by omega)
    have hp8 : p < 8 := by omega
    have hp1 : (p : Int) < 8 := by omega
    have hon : ¬ (o : Int) < 0 := by omega
    have hset : upd r p (bitsA .or .u64 (r p) (shlA .u64 1 o)) = setF r j := by rw [hp, ho]; rfl
    obtain ⟨m1, m2, m3⟩ := hr.more (by omega) hsf.2
    have hrr := hr.hf
    by_cases hge : (uval r + 2 ^ j) * (uval r + 2 ^ j) ≤ sval f
    · have hnext := hr.take (by omega) hsf.2 hge
      have hpos := Int.mul_nonneg (show 0 ≤ uval r + 2 ^ j by have := (uval_bound hrr).1; have := pow_2_pos j; omega) (show 0 ≤ uval r + 2 ^ j by have := (uval_bound hrr).1; have := pow_2_pos j; omega)
      have hi : InW ((uval r + 2 ^ j) * (uval r + 2 ^ j)) := by have := K5_pos; unfold InW; omega
      have hcmp : cmpI ((uval r + 2 ^ j) * (uval r + 2 ^ j)) (sval f) ≤ 0 := by unfold cmpI; split <;> (try split) <;> omega
      simp [-loopA_succ, sqrtLoop, sqrtP, sqrtM, sqrtSt, sqrtL, Tryz.f175, td, tm, w0, w1, hp8, hp1, hon, hset, m1, m2, hi, hcmp, fitV, sval_limb hi, R8_limb, hf, mod0, mod1]
      exact ⟨j, by omega, by omega, hnext, rfl⟩
    · have hnext := hr.pass (by omega)
      by_cases hi : InW ((uval r + 2 ^ j) * (uval r + 2 ^ j))
      · have hcmp : ¬ cmpI ((uval r + 2 ^ j) * (uval r + 2 ^ j)) (sval f) ≤ 0 := by unfold cmpI; split <;> (try split) <;> omega
        simp [-loopA_succ, sqrtLoop, sqrtP, sqrtM, sqrtSt, sqrtL, Tryz.f175, td, tm, w0, w1, hp8, hp1, hon, hset, m1, m2, fitV, R8_limb, hf, mod0, mod1, hi, hcmp, sval_limb hi]
        exact ⟨j, by omega, by omega, hnext, rfl⟩
      · simp [-loopA_succ, sqrtLoop, sqrtP, sqrtM, sqrtSt, sqrtL, Tryz.f175, td, tm, w0, w1, hp8, hp1, hon, hset, m1, m2, fitV, mod0, mod1, hi]
        exact ⟨j, by omega, by omega, hnext, rfl⟩
noncomputable def rootV (a : Int) : AV := if a < 0 then .tup [W 0, .bool false] else .tup [W (rootI a), .bool true]
noncomputable def sqrtS : List AV → PR
  | [.arr .u64 8 f] => if R8 f then .val (rootV (sval f)) else .fail
  | _ => .fail
@[simp] theorem sqrtS_val {f : Nat → Int} (h : R8 f) : sqrtS [.arr .u64 8 f] = .val (rootV (sval f)) := if_pos h
set_option maxHeartbeats 4000000 in
theorem sqrt_ok : SumOk Tryz.prog 175 (pureS sqrtS) := by
  refine sum_fn (L := sqrtL) (n := 259) (S := sqrtSt) drawS Tryz.T_ok (stOf_ok (by simp [negative_ok, bits_ok, mul_ok, cmp_ok])) Tryz.func175 rfl (by kernel_rfl) (by kernel_rfl) ?_
    (by intro args v h; unfold sqrtS at h; split at h <;> (try split at h) <;> simp at h)
  intro args v h
  unfold sqrtS at h
  split at h
  · rename_i f
    split at h
    · rename_i hf
      cases h
      refine ⟨by simp, by unfold rootV; split <;> simp, by unfold rootV; split <;> simp, ?_⟩
      by_cases hneg : sval f < 0
      · simp [Tryz.f175, sqrtSt, hf, neg_sval hf, hneg, rootV]
        exact eqv_tup2 eqvW_zero (Eqv.refl _)
      · have hsf := sval_range hf
        have b0 := blen_nonneg (sval f)
        have b1 := blen_lt (show 0 ≤ sval f by omega)
        have b2 := blen_le (z := sval f) (by have := K5_pos; omega)
        obtain ⟨m, hm⟩ : ∃ m : Nat, m = ((blen (sval f)).toNat + 1) / 2 := ⟨_, rfl⟩
        have w0 : IntKind.i64.wrap (blen (sval f) + 1) = blen (sval f) + 1 := wrap_i64_in (by omega) (by omega)
        have td : (blen (sval f) + 1).tdiv 2 = m := by rw [Int.tdiv_eq_ediv_of_nonneg (by omega)]; omega
        have w1 : IntKind.i64.wrap (m : Int) = m := wrap_i64_in (by omega) (by omega)
        have hr0 : Root (sval f) (fun _ => 0) (m + 1) := by
          refine ⟨R8_zero, by rw [zero_val]; omega, ?_, ⟨0, by rw [zero_val]; omega⟩⟩
          rw [zero_val, Int.zero_add, ← Int.pow_add]
          have := pow_le (a := (blen (sval f)).toNat) (b := m + 1 + (m + 1)) (by omega)
          omega
        simp [-loopA_succ, Tryz.f175, sqrtSt, hf, neg_sval hf, hneg, w0, w1, td]
        simp only [good_bind, good_unblock]
        refine sqrt_loop hf (k0 := m + 1) (by omega) hr0 (fun ts r old hr hfit => ?_) ?_
        · obtain ⟨l, rfl⟩ := fits_of hfit 0
          have u0 := (uval_bound hr.hf).1
          have e := rootI_of u0 hr.le (by have := hr.lt; rw [Int.pow_zero] at this; exact this)
          simp [sqrtP, sqrtM, rootV, hneg]
          rw [e]
          exact eqv_tup2 (eqvU hr.hf rfl) (Eqv.refl _)
        · simp [sqrtP]
    · simp at h
  · simp at h
end Go.X
end

section
namespace Go.X
open Go.Proofs
attribute [local irreducible] Good
theorem small_ok : SumOk Tryz.prog 100 (pureS ofS) := by
  refine sum_fn (L := fun _ => none) (n := 9) (S := stOf []) drawS Tryz.T_ok (stOf_ok (by simp)) Tryz.func100 rfl (by kernel_rfl) (by kernel_rfl) ?_
    (by intro args v h; unfold ofS at h; split at h <;> (try split at h) <;> simp at h)
  intro args v h
  unfold ofS at h
  split at h
  · rename_i n
    split at h
    · rename_i hn
      cases h
      refine ⟨by simp, by simp, by simp, ?_⟩
      have s := limb_small hn.1 hn.2
      by_cases hneg : n < 0
      · simp only [hneg, if_true] at s
        simp [Tryz.f100, hneg, wrap_u64_mod]
        refine eqv_arr fun i hi => ?_
        rcases eight hi with rfl | rfl | rfl | rfl | rfl | rfl | rfl | rfl
        · simp [upd, limb]
        all_goals simp [upd, s]
      · simp only [hneg, if_false] at s
        simp [Tryz.f100, hneg, wrap_u64_mod]
        refine eqv_arr fun i hi => ?_
        rcases eight hi with rfl | rfl | rfl | rfl | rfl | rfl | rfl | rfl
        · simp [upd, limb]
        all_goals simp [upd, s]
    · simp at h
  · simp at h
theorem InW_small {z : Int} (h : -9223372036854775808 ≤ z ∧ z < 9223372036854775808) : InW z := InI.w h
end Go.X
end

section
namespace Go.X
theorem shr_all {a : Int} (h : InW a) {k : Nat} (hk : 511 ≤ k) : a / 2 ^ k = if a < 0 then -1 else 0 := by
  have h1 : (2 : Int) ^ 511 ≤ 2 ^ k := pow_le hk
  rw [pow_2_511] at h1
  obtain ⟨h2, h3⟩ := h
  have hp := pow_2_pos k
  by_cases ha : a < 0
  · rw [if_pos ha, Int.ediv_eq_iff_of_pos hp]; omega
  · rw [if_neg ha]; exact Int.ediv_eq_zero_of_lt (by omega) (by omega)
theorem InW_pow {k : Nat} (hk : k ≤ 510) : InW (2 ^ k) := by
  have h1 : (2 : Int) ^ k ≤ 2 ^ 510 := pow_le hk
  have h2 := pow_2_511
  rw [show (511 : Nat) = 510 + 1 from rfl, Int.pow_succ] at h2
  have h3 := pow_2_pos k
  have h4 := pow_2_pos 510
  generalize (2 : Int) ^ 510 = p at *
  generalize (2 : Int) ^ k = q at *
  unfold InW
  omega
theorem blen_gt_pow {z : Int} {k : Nat} (h : 2 ^ k ≤ z) : (k : Int) < blen z := by
  have h0 := pow_2_pos k
  have h1 := blen_lt (show 0 ≤ z by omega)
  have h2 := blen_nonneg z
  rcases Nat.lt_or_ge k (blen z).toNat with h3 | h3
  · omega
  · have := pow_le h3; omega
theorem blen_mul {a b : Int} (ha : 0 < a) (hb : 0 < b) : blen (a * b) = blen a + blen b ∨ blen (a * b) = blen a + blen b - 1 := by
  have a0 := blen_lt (Int.le_of_lt ha); have b0 := blen_lt (Int.le_of_lt hb)
  obtain ⟨a1, a2⟩ := blen_ge ha; obtain ⟨b1, b2⟩ := blen_ge hb
  have h1 : a * b < 2 ^ ((blen a).toNat + (blen b).toNat) := by
    rw [Int.pow_add]
    have := Int.mul_lt_mul_of_pos_right a0 hb
    have := Int.mul_le_mul_of_nonneg_left (Int.le_of_lt b0) (Int.le_of_lt (pow_2_pos (blen a).toNat))
    omega
  have h2 : 2 ^ (((blen a).toNat - 1) + ((blen b).toNat - 1)) ≤ a * b := by
    rw [Int.pow_add]
    exact Int.mul_le_mul a2 b2 (Int.le_of_lt (pow_2_pos _)) (Int.le_of_lt ha)
  have h3 := blen_le_pow _ h1
  have h4 := blen_gt_pow h2
  omega
def absI (z : Int) : Int := if z < 0 then -z else z
theorem absI_mul (a b : Int) : absI (a * b) = absI a * absI b := by
  unfold absI
  rcases Int.lt_trichotomy a 0 with ha | ha | ha
  · rcases Int.lt_trichotomy b 0 with hb | hb | hb
    · have := Int.mul_pos_of_neg_of_neg ha hb
      rw [if_neg (by omega), if_pos ha, if_pos hb, Int.neg_mul_neg]
    · subst hb; simp
    · have := Int.mul_neg_of_neg_of_pos ha hb
      rw [if_pos this, if_pos ha, if_neg (by omega), Int.neg_mul]
  · subst ha; simp
  · rcases Int.lt_trichotomy b 0 with hb | hb | hb
    · have := Int.mul_neg_of_pos_of_neg ha hb
      rw [if_pos this, if_neg (by omega), if_pos hb, Int.mul_neg]
    · subst hb; simp
    · have := Int.mul_pos ha hb
      rw [if_neg (by omega), if_neg (by omega), if_neg (by omega)]
theorem absI_pos {z : Int} (h : z ≠ 0) : 0 < absI z := by unfold absI; split <;> omega
end Go.X
end
