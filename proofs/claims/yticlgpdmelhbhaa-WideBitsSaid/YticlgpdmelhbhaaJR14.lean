/- A number's bits are those of its opposite, enough, and one less is not; they add up in a product, but for one. -/
import Derived.Test.YticlgpdmelhbhaaGE
import Derived.Test.YticlgpdmelhbhaaGR
namespace Go.X
open Go.Proofs
attribute [local irreducible] Good
set_option maxRecDepth 100000

noncomputable def lawBitsS : List AV → PR
  | [.arr .u64 8 f, .arr .u64 8 g] => if R8 f ∧ R8 g then .val (.bool true) else .fail
  | _ => .fail
noncomputable def lbitSt : ST := stOf [(30, pureS bitsS), (26, pureS signS), (34, pureS negateS), (25, pureS ofS), (37, pureS shlS), (28, pureS cmpS), (16, pureS mulS), (18, pureS awakeS)]
noncomputable def lbitB : Code := Try.f14.body.getD .skip
def lbitPE : List (Option AV) := [none, none, some (.ptr 0 0), some (.ptr 1 0), some (.bool false), none, none, none, none, none, none, none, none, none, none, none, none, none, none, none, none, none, none, none, none, none, none, none, none, none, none, none, none, none, none, none, none, none, none, none, none, none, none, none, none, none, none, none, none, none, none, none, none, none, none, none, none, none, none, none, none, none, none, none, none, none, none, none, none, none, none, none, none, none, none, none, none, none, none, none, none, none, none, none, none, none, none, none, none, none, none, none, none, none, none, none, none, none, none, none, none, none, none, none, none, none, none, none, none, none, none, none, none, none, none, none, none, none, none, none, none, none, none, none, none, none, none, none, none, none, none, none, none, none, none, none, none, none, none]
def lbitPD (n : Int) : List (Option AV) := [none, none, some (.ptr 0 0), some (.ptr 1 0), some (.bool false), some (.int .i64 n), some (.ptr 2 0), none, none, none, none, none, none, none, none, none, none, none, none, none, none, none, none, none, none, none, none, none, none, none, none, none, none, none, none, none, none, none, none, none, none, none, none, none, none, none, none, none, none, none, none, none, none, none, none, none, none, none, none, none, none, none, none, none, none, none, none, none, none, none, none, none, none, none, none, none, none, none, none, none, none, none, none, none, none, none, none, none, none, none, none, none, none, none, none, none, none, none, none, none, none, none, none, none, none, none, none, none, none, none, none, none, none, none, none, none, none, none, none, none, none, none, none, none, none, none, none, none, none, none, none, none, none, none, none, none, none, none, none]
def lbitPC (n : Int) (ok : Bool) : List (Option AV) := [none, none, some (.ptr 0 0), some (.ptr 1 0), some (.bool false), some (.int .i64 n), some (.ptr 2 0), some (.bool ok), none, none, none, none, none, none, none, none, none, none, none, none, none, none, none, none, none, none, none, none, none, none, none, none, none, none, none, none, none, none, none, none, none, none, none, none, none, none, none, none, none, none, none, none, none, none, none, none, none, none, none, none, none, none, none, none, none, none, none, none, none, none, none, none, none, none, none, none, none, none, none, none, none, none, none, none, none, none, none, none, none, none, none, none, none, none, none, none, none, none, none, none, none, none, none, none, none, none, none, none, none, none, none, none, none, none, none, none, none, none, none, none, none, none, none, none, none, none, none, none, none, none, none, none, none, none, none, none, none, none, none]
def lbitE (x : Ex) (s : St) : Prop := Ends Try.T Try.f14.results.toList (fun u _ => Eqv u (.bool true)) (fun _ _ => False) x s

set_option maxHeartbeats 40000000 in
theorem lawBits_ok : SumOk Try.prog 14 (pureS lawBitsS) := by
  refine sum_fn (L := fun _ => none) (n := 1) (c := lbitB) (S := lbitSt) drawS Try.T_ok
    (stOf_ok (by simp [bits_ok, sign_ok, negate_ok, of_ok, shl_ok, cmp_ok, mul_ok, awake_ok])) Try.func14 rfl (by kernel_rfl) (by kernel_rfl) ?_
    (by intro args v h; unfold lawBitsS at h; split at h <;> (try split at h) <;> simp at h)
  intro args v h
  unfold lawBitsS at h
  split at h
  · rename_i f g
    split at h
    · rename_i hc
      obtain ⟨hf, hg⟩ := hc
      cases h
      refine ⟨by simp, by simp, by simp, ?_⟩
      have ra := sval_range hf; have rb := sval_range hg
      have hK := pow_2_511
      have s1 : sval (limb 1) = 1 := sval_small (by omega)
      have eB : ∀ z : Int, blen (if z < 0 then -z else z) = blen (absI z) := fun _ => rfl
      obtain ⟨m, hm⟩ : ∃ m, m = blen (absI (sval g)) := ⟨_, rfl⟩
      have m0 := blen_nonneg (absI (sval g))
      have m1 : m ≤ 512 := by rw [hm]; apply blen_le; unfold absI; split <;> omega
      rw [← hm] at m0
      by_cases hz : sval f = 0
      · have i0 : InW 0 := InW_small (by omega)
        have b0 := blen_zero
        have c0 : sgnI 0 = 0 := by decide
        have c1 : ¬ 0 ≤ cmpI 0 1 := by decide
        have i1 : InW 1 := InW_small (by omega)
        have s0 : sval (limb 0) = 0 := sval_small (by omega)
        simp (maxSteps := 10000000) [Try.f14, lbitB, lbitSt, hf, hg, R8_limb, fitV, shlV, hz, b0, c0, c1, i0, i1, s0, s1]
      · obtain ⟨n, hn⟩ : ∃ n, n = blen (absI (sval f)) := ⟨_, rfl⟩
        have hpos := absI_pos hz
        have n1 := blen_lt (Int.le_of_lt hpos)
        obtain ⟨n2, n3⟩ := blen_ge hpos
        have n4 : n ≤ 512 := by rw [hn]; apply blen_le; unfold absI; split <;> omega
        rw [← hn] at n1 n2 n3
        have f1 : ¬ n < 0 := by omega
        have f2 : ¬ 512 < n := by omega
        have f3 : ¬ n = 0 := by omega
        have f4 : ¬ sgnI (sval f) = 0 := fun e => hz (sgnI_zero.1 e)
        have f5 : 1 ≤ n := by omega
        have f3b : (n == 0) = false := by simp [f3]
        have f4b : (sgnI (sval f) == 0) = false := by simp [f4]
        have f6 : ¬ n - 1 < 0 := by omega
        have f7 : ¬ n < 1 := by omega
        have w1 : IntKind.i64.wrap (n - 1) = n - 1 := wrap_i64_in (by omega) (by omega)
        have w2 : IntKind.i64.wrap (n + m) = n + m := wrap_i64_in (by omega) (by omega)
        have w3 : IntKind.i64.wrap (n + m - 1) = n + m - 1 := wrap_i64_in (by omega) (by omega)
        have f8 : n - 1 < 9223372036854775808 := by omega
        have f9 : n < 9223372036854775808 := by omega
        -- the product
        have prod : ¬ InW (sval f * sval g) ∨ (InW (sval f * sval g) ∧ (sgnI (sval f * sval g) = 0 ∨ (¬ sgnI (sval f * sval g) = 0 ∧ (blen (absI (sval f * sval g)) = n + m ∨ blen (absI (sval f * sval g)) = n + m - 1)))) := by
          by_cases hi : InW (sval f * sval g)
          · refine .inr ⟨hi, ?_⟩
            by_cases hg0 : sval g = 0
            · left; rw [hg0, Int.mul_zero]; decide
            · right
              refine ⟨fun e => ?_, ?_⟩
              · rcases Int.mul_eq_zero.1 (sgnI_zero.1 e) with h | h
                · exact hz h
                · exact hg0 h
              · rw [absI_mul, hn, hm]; exact blen_mul hpos (absI_pos hg0)
          · exact .inl hi
        have prod' : ∀ P : Prop, (¬ InW (sval f * sval g) → P) → (InW (sval f * sval g) → sgnI (sval f * sval g) = 0 → P) → (InW (sval f * sval g) → ¬ sgnI (sval f * sval g) = 0 → blen (absI (sval f * sval g)) = n + m → P) → (InW (sval f * sval g) → ¬ sgnI (sval f * sval g) = 0 → blen (absI (sval f * sval g)) = n + m - 1 → P) → P := by
          intro P h1 h2 h3 h4
          rcases prod with h | ⟨h, h' | ⟨h', h'' | h''⟩⟩
          · exact h1 h
          · exact h2 h h'
          · exact h3 h h' h''
          · exact h4 h h' h''
        have i2 : n ≤ 511 → InW (2 ^ (n.toNat - 1)) := fun h => InW_pow (by omega)
        have i3 : n < 511 → InW (2 ^ n.toNat) := fun h => InW_pow (by omega)
        have segE : ∀ (ts : List AV) (M : Blk) (old : List Blk), Fits lbitPE ts → Good (exec Try.T lbitSt (fun _ => none) 1 (tailC 1 (tailC 1 (tailC 5 lbitB))) ⟨ts, ⟨[.arr .u64 8 f], 25⟩ :: ⟨[.arr .u64 8 g], 25⟩ :: M :: old, []⟩) lbitE := by
          intro ts M old hfit
          obtain ⟨l, rfl⟩ := fits_of hfit 0
          refine prod' _ (fun h => ?_) (fun h h' => ?_) (fun h h' h'' => ?_) (fun h h' h'' => ?_)
          · simp (maxSteps := 10000000) [Try.f14, lbitB, lbitE, lbitSt, lbitPE, hf, hg, fitV, eB, ← hm, w2, mod0, ← hn, h]
          · simp (maxSteps := 10000000) [Try.f14, lbitB, lbitE, lbitSt, lbitPE, hf, hg, R8_limb, fitV, eB, ← hm, w2, sval_limb, mod0, ← hn, h, h']
          · have hsb : (sgnI (sval f * sval g) == 0) = false := by simp [h']
            have hne : ¬ n + m - 1 = n + m := by omega
            have hneb : (n + m - 1 == n + m) = false := by simp [hne]
            simp (maxSteps := 10000000) [Try.f14, lbitB, lbitE, lbitSt, lbitPE, hf, hg, R8_limb, fitV, eB, ← hm, w2, sval_limb, mod0, ← hn, h, h'', hsb]
          · have hsb : (sgnI (sval f * sval g) == 0) = false := by simp [h']
            have hne : ¬ n + m - 1 = n + m := by omega
            have hneb : (n + m - 1 == n + m) = false := by simp [hne]
            simp (maxSteps := 10000000) [Try.f14, lbitB, lbitE, lbitSt, lbitPE, hf, hg, R8_limb, fitV, eB, ← hm, w2, w3, sval_limb, mod0, ← hn, h, h'', hsb, hneb]
        generalize hE : tailC 1 (tailC 1 (tailC 5 lbitB)) = tlE at segE
        by_cases ha : sval f < 0
        · have eA : absI (sval f) = - sval f := if_pos ha
          have eN : absI (- sval f) = - sval f := if_neg (by omega)
          have ha2 : ¬ 0 < sval f := by omega
          rw [eA] at n1 n3
          have hn' := hn
          rw [eA] at hn'
          have g1 : sgnI (sval f) < 0 := by unfold sgnI; rw [if_pos ha]; decide
          have g2 : ¬ 0 < sgnI (sval f) := by omega
          by_cases ok : InW (- sval f)
          · have n5 : n ≤ 511 := by rw [hn']; apply blen_le_pow 511; rw [hK]; exact ok.2
            have j2 := i2 n5
            have c3 : ¬ cmpI (- sval f) (2 ^ (n.toNat - 1)) < 0 := by unfold cmpI; (repeat' split) <;> omega
            have segD : ∀ (ts : List AV) (old : List Blk), Fits (lbitPD n) ts → Good (exec Try.T lbitSt (fun _ => none) 1 (tailC 1 (tailC 5 lbitB)) ⟨ts, ⟨[.arr .u64 8 f], 25⟩ :: ⟨[.arr .u64 8 g], 25⟩ :: ⟨[.arr .u64 8 (limb (- sval f))], 25⟩ :: old, []⟩) lbitE := by
              intro ts old hfit
              obtain ⟨l, rfl⟩ := fits_of hfit 0
              refine good_cut 1 hE ?_
              clear hE
              simp (maxSteps := 10000000) [Try.f14, lbitB, lbitSt, lbitPD, hf, R8_limb, fitV, shlV, f5, f6, f8, w1, s1, sval_limb, mod0, g1, g2, ok, n5, j2, c3]
              refine segE _ _ _ ?_
              simp [lbitPE]
            generalize hD : tailC 1 (tailC 5 lbitB) = tlD at segD hE
            have segC : ∀ (ts : List AV), Fits (lbitPC n true) ts → Good (exec Try.T lbitSt (fun _ => none) 1 (tailC 5 lbitB) ⟨ts, ⟨[.arr .u64 8 f], 25⟩ :: ⟨[.arr .u64 8 g], 25⟩ :: ⟨[.arr .u64 8 (limb (- sval f))], 25⟩ :: [], []⟩) lbitE := by
              intro ts hfit
              obtain ⟨l, rfl⟩ := fits_of hfit 0
              refine good_cut 1 hD ?_
              clear hD hE
              by_cases n6 : n < 511
              · have j3 := i3 n6
                have c1 : ¬ 0 ≤ cmpI (sval f) (2 ^ n.toNat) := by unfold cmpI; (repeat' split) <;> omega
                have c2 : ¬ 0 ≤ cmpI (- sval f) (2 ^ n.toNat) := by unfold cmpI; (repeat' split) <;> omega
                simp (maxSteps := 10000000) [Try.f14, lbitB, lbitSt, lbitPC, hf, R8_limb, fitV, shlV, f1, f9, s1, sval_limb, ok, n6, j3, c1, c2]
                refine segD _ _ ?_
                simp [lbitPD]
              · simp (maxSteps := 10000000) [Try.f14, lbitB, lbitSt, lbitPC, n6]
                refine segD _ _ ?_
                simp [lbitPD]
            generalize hC : tailC 5 lbitB = tlC at segC hD
            refine good_cut 5 hC ?_
            clear hC hD hE segD segE
            simp (maxSteps := 10000000) [Try.f14, lbitB, lbitSt, hf, R8_limb, fitV, f1, f2, f3b, f4b, sval_limb, ok, ha, ha2, ← hn']
            refine segC _ ?_
            simp [lbitPC]
          · have n5 : ¬ n ≤ 511 := by
              intro h
              have := pow_le (a := n.toNat) (b := 511) (by omega)
              rw [hK] at this
              exact ok (by unfold InW; omega)
            have n6 : ¬ n < 511 := by omega
            have segD : ∀ (ts : List AV) (old : List Blk), Fits (lbitPD n) ts → Good (exec Try.T lbitSt (fun _ => none) 1 (tailC 1 (tailC 5 lbitB)) ⟨ts, ⟨[.arr .u64 8 f], 25⟩ :: ⟨[.arr .u64 8 g], 25⟩ :: ⟨[.arr .u64 8 (limb 0)], 25⟩ :: old, []⟩) lbitE := by
              intro ts old hfit
              obtain ⟨l, rfl⟩ := fits_of hfit 0
              refine good_cut 1 hE ?_
              clear hE
              simp (maxSteps := 10000000) [Try.f14, lbitB, lbitSt, lbitPD, f5, n5]
              refine segE _ _ _ ?_
              simp [lbitPE]
            generalize hD : tailC 1 (tailC 5 lbitB) = tlD at segD hE
            have segC : ∀ (ts : List AV), Fits (lbitPC n false) ts → Good (exec Try.T lbitSt (fun _ => none) 1 (tailC 5 lbitB) ⟨ts, ⟨[.arr .u64 8 f], 25⟩ :: ⟨[.arr .u64 8 g], 25⟩ :: ⟨[.arr .u64 8 (limb 0)], 25⟩ :: [], []⟩) lbitE := by
              intro ts hfit
              obtain ⟨l, rfl⟩ := fits_of hfit 0
              refine good_cut 1 hD ?_
              clear hD hE
              simp (maxSteps := 10000000) [Try.f14, lbitB, lbitSt, lbitPC, n6]
              refine segD _ _ ?_
              simp [lbitPD]
            generalize hC : tailC 5 lbitB = tlC at segC hD
            refine good_cut 5 hC ?_
            clear hC hD hE segD segE
            simp (maxSteps := 10000000) [Try.f14, lbitB, lbitSt, hf, fitV, f1, f2, f3b, f4b, ok, ha, ← hn']
            refine segC _ ?_
            simp [lbitPC]
        · have eA : absI (sval f) = sval f := if_neg ha
          have eN : absI (- sval f) = sval f := by unfold absI; rw [if_pos (by omega), Int.neg_neg]
          have ha2 : 0 < sval f := by omega
          rw [eA] at n1 n3
          have hn' := hn
          rw [eA] at hn'
          have ok : InW (- sval f) := by unfold InW; omega
          have g1 : ¬ sgnI (sval f) < 0 := by unfold sgnI; rw [if_neg ha]; split <;> decide
          have g2 : 0 < sgnI (sval f) := by unfold sgnI; rw [if_neg ha, if_neg hz]; decide
          have n5 : n ≤ 511 := by rw [hn']; apply blen_le_pow 511; rw [hK]; exact ra.2
          have j2 := i2 n5
          have c3 : ¬ cmpI (sval f) (2 ^ (n.toNat - 1)) < 0 := by unfold cmpI; (repeat' split) <;> omega
          have segD : ∀ (ts : List AV) (old : List Blk), Fits (lbitPD n) ts → Good (exec Try.T lbitSt (fun _ => none) 1 (tailC 1 (tailC 5 lbitB)) ⟨ts, ⟨[.arr .u64 8 f], 25⟩ :: ⟨[.arr .u64 8 g], 25⟩ :: ⟨[.arr .u64 8 (limb (- sval f))], 25⟩ :: old, []⟩) lbitE := by
            intro ts old hfit
            obtain ⟨l, rfl⟩ := fits_of hfit 0
            refine good_cut 1 hE ?_
            clear hE
            simp (maxSteps := 10000000) [Try.f14, lbitB, lbitSt, lbitPD, hf, R8_limb, fitV, shlV, f5, f6, f8, w1, s1, sval_limb, mod0, g1, g2, n5, j2, c3]
            refine segE _ _ _ ?_
            simp [lbitPE]
          generalize hD : tailC 1 (tailC 5 lbitB) = tlD at segD hE
          have segC : ∀ (ts : List AV), Fits (lbitPC n true) ts → Good (exec Try.T lbitSt (fun _ => none) 1 (tailC 5 lbitB) ⟨ts, ⟨[.arr .u64 8 f], 25⟩ :: ⟨[.arr .u64 8 g], 25⟩ :: ⟨[.arr .u64 8 (limb (- sval f))], 25⟩ :: [], []⟩) lbitE := by
            intro ts hfit
            obtain ⟨l, rfl⟩ := fits_of hfit 0
            refine good_cut 1 hD ?_
            clear hD hE
            by_cases n6 : n < 511
            · have j3 := i3 n6
              have c1 : ¬ 0 ≤ cmpI (sval f) (2 ^ n.toNat) := by unfold cmpI; (repeat' split) <;> omega
              have c2 : ¬ 0 ≤ cmpI (- sval f) (2 ^ n.toNat) := by unfold cmpI; (repeat' split) <;> omega
              simp (maxSteps := 10000000) [Try.f14, lbitB, lbitSt, lbitPC, hf, R8_limb, fitV, shlV, f1, f9, s1, sval_limb, ok, n6, j3, c1, c2]
              refine segD _ _ ?_
              simp [lbitPD]
            · simp (maxSteps := 10000000) [Try.f14, lbitB, lbitSt, lbitPC, n6]
              refine segD _ _ ?_
              simp [lbitPD]
          generalize hC : tailC 5 lbitB = tlC at segC hD
          refine good_cut 5 hC ?_
          clear hC hD hE segD segE
          simp (maxSteps := 10000000) [Try.f14, lbitB, lbitSt, hf, R8_limb, fitV, f1, f2, f3b, f4b, sval_limb, ok, ha, ha2, ← hn']
          refine segC _ ?_
          simp [lbitPC]
    · simp at h
  · simp at h

end Go.X
