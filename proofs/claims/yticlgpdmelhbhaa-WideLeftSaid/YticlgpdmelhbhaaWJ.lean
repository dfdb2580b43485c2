/- Package wide: products: the inner loop. -/
import Derived.Test.YticlgpdmelhbhaaWI
import Derived.Test.YticlgpdmelhbhaaZ7
namespace Go.X
open Go.Proofs
attribute [local irreducible] Good

noncomputable def mulP (f g : Nat → Int) (t9 t10 t22 t29 : Option AV) : List (Option AV) := [some (.arr .u64 8 f), some (.arr .u64 8 g), some (.ptr 0 0), some (.ptr 1 0), some (.ptr 2 0), some (.ptr 3 0), some (.ptr 4 0), some (.ptr 5 0), some (.ptr 6 0), t9, t10, none, none, none, none, none, none, none, none, none, none, none, t22, none, none, none, none, none, none, t29, none, none, none, none, none, none, none, none, none, none, none, none, none, none, none, none, none, none, none, none, none, none, none, none, none, none, none, none, none, none, none, none, none, none, none, none, none, none, none, none, none, none, none, none, none, none, none, none, none, none, none, none, none, none, none, none, none, none, none, none, none, none, none, none, none]
noncomputable def mulM (f g X Y l : Nat → Int) : List Blk := [⟨[.arr .u64 8 f], 25⟩, ⟨[.arr .u64 8 g], 25⟩, ⟨[.arr .u64 8 fun _ => 0], 25⟩, ⟨[.bool false], 4⟩, ⟨[.arr .u64 8 X], 47⟩, ⟨[.arr .u64 8 Y], 47⟩, ⟨[.arr .u64 8 l], 47⟩]
abbrev mulD : List (FuncId × List AV) := [(41, [.ptr 2 0, .ptr 3 0])]
abbrev unfitV : AV := .iface 53 (.agg [])
noncomputable def mulL (i : Nat) : Option DM := if i = 2 then some (.quiet 8) else if i = 25 then some (.quiet 8) else none
noncomputable def mulSt : ST := stOf [(42, pureS sizeS), (43, pureS mul64S), (44, pureS add64S), (46, pureS negS), (45, pureS signedS)]
noncomputable def mulOut : Code := match Try.f16.body with | some (.seq _ (.seq _ (.seq _ (.seq _ (.seq (.seq _ (.block _ (.loop c))) _))))) => c | _ => .skip
noncomputable def mulIn : Code := match mulOut with | .seq _ (.seq _ (.seq (.block _ (.seq _ (.seq _ (.seq _ (.seq (.seq _ (.block _ (.loop c))) _))))) _)) => c | _ => .skip

theorem mulIn_ne : mulIn ≠ .skip := by unfold mulIn mulOut; simp [Try.f16]

set_option maxHeartbeats 4000000 in
theorem mul_in {f g X Y : Nat → Int} (hX : R8 X) (hY : R8 Y) {i : Nat} (hi : i < 8) {L0 : Int} (hL : L0 = lowU X i * uval Y) {Q : Ex → St → Prop}
    (hQ : ∀ (ts : List AV) (l : Nat → Int) (c : Int), R8 l → 0 ≤ c → c < 18446744073709551616 → uval l + c * 18446744073709551616 ^ (i + 8) = L0 + X i * 18446744073709551616 ^ i * uval Y →
      Fits (mulP f g (some (.int .i64 i)) (some (.int .u64 c)) (some (.int .i64 i)) none) ts → Q (.exit 2) ⟨ts, mulM f g X Y l, mulD⟩)
    (hP : 2 * K5 ≤ uval X * uval Y → ∀ (ts : List AV) (l : Nat → Int), Fits (mulP f g none none none none) ts → Q (.pan unfitV) ⟨ts, mulM f g X Y l, mulD⟩)
    {l0 : Nat → Int} (h0 : R8 l0) (hl0 : uval l0 = L0) {ts : List AV}
    (hf0 : Fits (mulP f g (some (.int .i64 i)) (some (.int .u64 0)) (some (.int .i64 i)) (some (.int .i64 0))) ts) :
    Good (loopA (exec Try.T mulSt mulL 9 mulIn) 9 ⟨ts, mulM f g X Y l0, mulD⟩) Q := by
  refine loop_rule (fun n s => ∃ k : Nat, k + n = 8 ∧ ∃ (l : Nat → Int) (c : Int), R8 l ∧ 0 ≤ c ∧ c < 18446744073709551616 ∧ (8 < i + k → c = 0) ∧ uval l + c * 18446744073709551616 ^ (i + k) = L0 + X i * 18446744073709551616 ^ i * lowU Y k ∧
      Fits (mulP f g (some (.int .i64 i)) (some (.int .u64 c)) (some (.int .i64 i)) (some (.int .i64 k))) s.ts ∧ s.m = mulM f g X Y l ∧ s.df = mulD) ?_ 9 8 _ (by omega)
    ⟨0, rfl, l0, 0, h0, by omega, by omega, by omega, by simp [lowU, hl0], hf0, rfl, rfl⟩
  rintro n ⟨ts, mm, df⟩ ⟨k, hkn, l, c, hl, hc0, hc1, hcz, hval, hfit, hm', hd⟩
  simp only at hfit hm' hd
  subst hm' hd
  obtain ⟨t, rfl⟩ := fits_of hfit 0
  by_cases hk : k < 8
  · have hk1 : (k : Int) < 8 := by omega
    have hk2 : (0 : Int) ≤ k := by omega
    have hi1 : (i : Int) < 8 := by omega
    have hi2 : (0 : Int) ≤ i := by omega
    have w1 : IntKind.i64.wrap ((i : Int) + k) = i + k := wrap_i64_in (by omega) (by omega)
    have w2 : IntKind.i64.wrap ((k : Int) + 1) = k + 1 := wrap_i64_in (by omega) (by omega)
    have n1 : ((i : Int) + k).toNat = i + k := by omega
    have g1 : (0 : Int) ≤ i + k := by omega
    have hx := hX i hi; have hy := hY k hk
    by_cases hik : i + k < 8
    · have hl' := hl (i + k) hik
      obtain ⟨m1, m2, m3, m4, m5, m6, m7⟩ := mul_step hx hy ⟨hc0, hc1⟩ hl'
      have hs := mul_in_step hik hval m3
      have hr := R8_upd hl (i := i + k) (v := (l (i + k) + (X i * Y k + c)) % 18446744073709551616) (by omega) (by omega)
      have g2 : (i : Int) + k < 8 := by omega
      have g3 : ¬ (8 : Int) ≤ i + k := by omega
      have q1 : 0 ≤ X i * Y k % 18446744073709551616 := by omega
      have q2 : 0 ≤ (X i * Y k + c) % 18446744073709551616 := by omega
      simp [mulIn, mulOut, Try.f16, mulP, mulM, mulSt, mulL, hk, hi, hk1, hk2, hi1, hi2, w1, w2, n1, g1, g2, g3, hik, hx, hy, hc0, hl', q1, q2, m4, m5, m6, m7]
      exact ⟨n - 1, by omega, k + 1, by omega, _, hr, _, m6, m7, fun h => absurd h (by omega), hs, ⟨rfl, by omega⟩, rfl⟩
    · have g2 : (8 : Int) ≤ i + k := by omega
      have p0 := Int.mul_nonneg hx.1 hy.1
      by_cases hz : X i * Y k + c = 0
      · have hc : c = 0 := by omega
        have hp : X i * Y k = 0 := by omega
        subst hc
        have hs : uval l = L0 + X i * 18446744073709551616 ^ i * lowU Y (k + 1) := by
          have : X i * 18446744073709551616 ^ i * (Y k * 18446744073709551616 ^ k) = X i * Y k * (18446744073709551616 ^ i * 18446744073709551616 ^ k) := by grind
          rw [lowU, Int.mul_add, this, hp]
          omega
        simp [mulIn, mulOut, Try.f16, mulP, mulM, mulSt, mulL, hk, hi, hk1, hk2, hi1, hi2, w1, w2, g2, hx, hy, hp]
        exact ⟨n - 1, by omega, k + 1, by omega, l, hl, 0, by omega, by omega, fun _ => rfl, by omega, ⟨rfl, by omega⟩, rfl⟩
      · have hfit : 2 * K5 ≤ uval X * uval Y := by
          refine mul_over (l := uval l) (c := c + X i * Y k) hX hY hi (u := lowU Y (k + 1)) (lowU_le hY (by omega)) (e := i + k) (by omega) hL (uval_bound hl).1 ?_ (by omega)
          rw [lowU, Int.mul_add, Int.add_mul]
          have : X i * 18446744073709551616 ^ i * (Y k * 18446744073709551616 ^ k) = X i * Y k * 18446744073709551616 ^ (i + k) := by rw [Int.pow_add]; grind
          omega
        have hP' := hP hfit
        simp only [mulM, mulD] at hP'
        have g3 : ¬ (i : Int) + k < 8 := by omega
        obtain ⟨m1, m2, -, m4, m5, -, -⟩ := mul_step hx hy ⟨hc0, hc1⟩ (l := 0) (by omega)
        have q1 : 0 ≤ X i * Y k % 18446744073709551616 := by omega
        by_cases hlow : (X i * Y k + c) % 18446744073709551616 = 0
        · have hhigh : ¬ X i * Y k / 18446744073709551616 + (X i * Y k % 18446744073709551616 + c) / 18446744073709551616 = 0 := by omega
          simp [mulIn, mulOut, Try.f16, mulP, mulM, mulSt, mulL, hk, hi, hk1, hk2, hi1, hi2, w1, g2, hx, hy, hc0, q1, m4, m5, hlow, hhigh]
          exact hP' _ _ (by simp [mulP])
        · have hb : ((X i * Y k + c) % 18446744073709551616 != 0) = true := by simp [hlow]
          simp [mulIn, mulOut, Try.f16, mulP, mulM, mulSt, mulL, hk, hi, hk1, hk2, hi1, hi2, w1, g2, hx, hy, hc0, q1, m4, m5, hb]
          exact hP' _ _ (by simp [mulP])
  · have hk1 : ¬ (k : Int) < 8 := by omega
    have hk8 : k = 8 := by omega
    subst hk8
    have hQ' := hQ
    simp only [mulM, mulD] at hQ'
    simp [mulIn, mulOut, Try.f16, mulP, mulM, mulSt]
    refine hQ' _ l c hl hc0 hc1 (by rw [lowU_8] at hval; exact hval) ?_
    simp [mulP]

end Go.X
