/- Where the answers fit, sums and products don't hang on the order, nor on how they are bracketed, and a product of a sum is the sum of the products. -/
import Derived.Test.YticlgpdmelhbhaaGE
import Derived.Test.YticlgpdmelhbhaaGR
namespace Go.X
open Go.Proofs
attribute [local irreducible] Good
set_option maxRecDepth 100000

noncomputable def lawRingS : List AV → PR
  | [.arr .u64 8 f, .arr .u64 8 g, .arr .u64 8 c] => if R8 f ∧ R8 g ∧ R8 c then .val (.bool true) else .fail
  | _ => .fail
noncomputable def ringSt : ST := stOf [(32, pureS addS), (16, pureS mulS), (18, pureS awakeS)]
noncomputable def ringB : Code := Try.f7.body.getD .skip
def ringP2 (gb : Bool) : List (Option AV) := [none, none, none, some (.ptr 0 0), some (.ptr 1 0), some (.ptr 2 0), some (.bool false), none, none, none, none, some (.ptr 5 0), some (.bool gb), none, none, none, none, none, none, none, none, none, none, none, none, none, none, none, none, none, none, none, none, none, none, none, none, none, none, none, none, none, none, none, none, none, none, none, none, none, none, none, none, none, none, none, none, none, none, none, none, none, none, none, none, none, none, none, none, none, none, none, none, none, none, none, none, none, none, none, none, none, none, none, none, none, none, none, none, none, none, none, none, none, none, none, none, none, none, none, none, none, none, none, none, none, none, none, none, none, none, none, none, none, none, none, none, none, none, none, none, none, none, none, none, none, none, none, none, none, none, none, none, none, none, none, none, none, none, none, none, none, none, none, none, none, none, none, none, none, none, none, none, none, none, none, none, none, none, none, none, none, none, none, none, none, none, none, none, none, none, none, none, none, none, none, none, none, none, none, none, none, none, none, none, none, none, none, none, none, none]
def ringP3 (jb : Bool) : List (Option AV) := [none, none, none, some (.ptr 0 0), some (.ptr 1 0), some (.ptr 2 0), some (.bool false), none, none, none, none, none, none, none, none, none, none, some (.ptr 8 0), some (.bool jb), none, none, none, none, none, none, none, none, none, none, none, none, none, none, none, none, none, none, none, none, none, none, none, none, none, none, none, none, none, none, none, none, none, none, none, none, none, none, none, none, none, none, none, none, none, none, none, none, none, none, none, none, none, none, none, none, none, none, none, none, none, none, none, none, none, none, none, none, none, none, none, none, none, none, none, none, none, none, none, none, none, none, none, none, none, none, none, none, none, none, none, none, none, none, none, none, none, none, none, none, none, none, none, none, none, none, none, none, none, none, none, none, none, none, none, none, none, none, none, none, none, none, none, none, none, none, none, none, none, none, none, none, none, none, none, none, none, none, none, none, none, none, none, none, none, none, none, none, none, none, none, none, none, none, none, none, none, none, none, none, none, none, none, none, none, none, none, none, none, none, none, none]
def ringE (x : Ex) (s : St) : Prop := Ends Try.T Try.f7.results.toList (fun u _ => Eqv u (.bool true)) (fun _ _ => False) x s

set_option maxHeartbeats 40000000 in
theorem lawRing_ok : SumOk Try.prog 7 (pureS lawRingS) := by
  refine sum_fn (L := fun _ => none) (n := 1) (c := ringB) (S := ringSt) drawS Try.T_ok
    (stOf_ok (by simp [add_ok, mul_ok, awake_ok])) Try.func7 rfl (by kernel_rfl) (by kernel_rfl) ?_
    (by intro args v h; unfold lawRingS at h; split at h <;> (try split at h) <;> simp at h)
  intro args v h
  unfold lawRingS at h
  split at h
  · rename_i f g c
    split at h
    · rename_i hc
      obtain ⟨hf, hg, hc⟩ := hc
      cases h
      refine ⟨by simp, by simp, by simp, ?_⟩
      have s0 : sval (limb 0) = 0 := sval_small (by omega)
      have hc1 : sval g + sval f = sval f + sval g := Int.add_comm _ _
      have hc2 : sval g * sval f = sval f * sval g := Int.mul_comm _ _
      have hc3 : sval f + (sval g + sval c) = sval f + sval g + sval c := (Int.add_assoc _ _ _).symm
      have hd : sval f * (sval g + sval c) = sval f * sval g + sval f * sval c := Int.mul_add _ _ _
      have hm : sval f * (sval g * sval c) = sval f * sval g * sval c := (Int.mul_assoc _ _ _).symm
      by_cases ig : InW (sval g + sval c)
      · have segB : ∀ (ts : List AV) (b3 b4 b6 b7 : Blk), Fits (ringP2 true) ts → Good (exec Try.T ringSt (fun _ => none) 1 (tailC 8 ringB) ⟨ts, [⟨[.arr .u64 8 f], 25⟩, ⟨[.arr .u64 8 g], 25⟩, ⟨[.arr .u64 8 c], 25⟩, b3, b4, ⟨[.arr .u64 8 (limb (sval g + sval c))], 25⟩, b6, b7], []⟩) ringE := by
          by_cases ij : InW (sval f * sval g)
          · have segC : ∀ (ts : List AV) (b3 b4 b5 b6 b7 b9 b10 b11 b12 : Blk), Fits (ringP3 true) ts → Good (exec Try.T ringSt (fun _ => none) 1 (tailC 6 (tailC 8 ringB)) ⟨ts, [⟨[.arr .u64 8 f], 25⟩, ⟨[.arr .u64 8 g], 25⟩, ⟨[.arr .u64 8 c], 25⟩, b3, b4, b5, b6, b7, ⟨[.arr .u64 8 (limb (sval f * sval g))], 25⟩, b9, b10, b11, b12], []⟩) ringE := by
              intro ts b3 b4 b5 b6 b7 b9 b10 b11 b12 hfit
              obtain ⟨l, rfl⟩ := fits_of hfit 0
              by_cases iw : InW (sval g * sval c)
              · by_cases iP : InW (sval f * sval g * sval c)
                · simp (maxSteps := 10000000) [Try.f7, ringB, ringE, ringSt, ringP3, hf, hg, hc, R8_limb, fitV, sval_limb, hm, eqArr_iff, ij, iw, iP]
                · simp (maxSteps := 10000000) [Try.f7, ringB, ringE, ringSt, ringP3, hf, hg, hc, R8_limb, fitV, sval_limb, s0, hm, eqArr_iff, ij, iw, iP]
              · simp (maxSteps := 10000000) [Try.f7, ringB, ringE, ringSt, ringP3, hf, hg, hc, R8_limb, fitV, sval_limb, s0, ij, iw]
            generalize h3 : tailC 6 (tailC 8 ringB) = tl3 at segC
            intro ts b3 b4 b6 b7 hfit
            obtain ⟨l, rfl⟩ := fits_of hfit 0
            refine good_cut 6 h3 ?_
            clear h3
            by_cases il : InW (sval f * sval c)
            · by_cases iM : InW (sval f * sval g + sval f * sval c)
              · simp (maxSteps := 10000000) [Try.f7, ringB, ringSt, ringP2, hf, hg, hc, R8_limb, fitV, sval_limb, hc2, hd, eqArr_iff, ig, ij, il, iM]
                exact segC _ _ _ _ _ _ _ _ _ _ (by simp [ringP3])
              · simp (maxSteps := 10000000) [Try.f7, ringB, ringSt, ringP2, hf, hg, hc, R8_limb, fitV, sval_limb, s0, hc2, hd, eqArr_iff, ig, ij, il, iM]
                exact segC _ _ _ _ _ _ _ _ _ _ (by simp [ringP3])
            · simp (maxSteps := 10000000) [Try.f7, ringB, ringSt, ringP2, hf, hg, hc, R8_limb, fitV, sval_limb, s0, hc2, hd, eqArr_iff, ig, ij, il]
              exact segC _ _ _ _ _ _ _ _ _ _ (by simp [ringP3])
          · have segC : ∀ (ts : List AV) (b3 b4 b5 b6 b7 b9 b10 b11 b12 : Blk), Fits (ringP3 false) ts → Good (exec Try.T ringSt (fun _ => none) 1 (tailC 6 (tailC 8 ringB)) ⟨ts, [⟨[.arr .u64 8 f], 25⟩, ⟨[.arr .u64 8 g], 25⟩, ⟨[.arr .u64 8 c], 25⟩, b3, b4, b5, b6, b7, ⟨[.arr .u64 8 (limb 0)], 25⟩, b9, b10, b11, b12], []⟩) ringE := by
              intro ts b3 b4 b5 b6 b7 b9 b10 b11 b12 hfit
              obtain ⟨l, rfl⟩ := fits_of hfit 0
              simp (maxSteps := 10000000) [Try.f7, ringB, ringE, ringSt, ringP3, hf, hg, hc, R8_limb, fitV, s0]
            generalize h3 : tailC 6 (tailC 8 ringB) = tl3 at segC
            intro ts b3 b4 b6 b7 hfit
            obtain ⟨l, rfl⟩ := fits_of hfit 0
            refine good_cut 6 h3 ?_
            clear h3
            simp (maxSteps := 10000000) [Try.f7, ringB, ringSt, ringP2, hf, hg, hc, R8_limb, fitV, sval_limb, s0, hc2, hd, eqArr_iff, ig, ij]
            exact segC _ _ _ _ _ _ _ _ _ _ (by simp [ringP3])
        generalize h2 : tailC 8 ringB = tl2 at segB
        refine good_cut 8 h2 ?_
        clear h2
        by_cases ie : InW (sval f + sval g)
        · by_cases is : InW (sval f + sval g + sval c)
          · simp (maxSteps := 10000000) [Try.f7, ringB, ringSt, hf, hg, hc, R8_limb, fitV, sval_limb, hc1, hc3, eqArr_iff, ig, ie, is]
            exact segB _ _ _ _ _ (by simp [ringP2])
          · simp (maxSteps := 10000000) [Try.f7, ringB, ringSt, hf, hg, hc, R8_limb, fitV, sval_limb, hc1, hc3, eqArr_iff, ig, ie, is]
            exact segB _ _ _ _ _ (by simp [ringP2])
        · simp (maxSteps := 10000000) [Try.f7, ringB, ringSt, hf, hg, hc, R8_limb, fitV, sval_limb, s0, hc1, hc3, eqArr_iff, ig, ie]
          exact segB _ _ _ _ _ (by simp [ringP2])
      · have segB : ∀ (ts : List AV) (b3 b4 b6 b7 : Blk), Fits (ringP2 false) ts → Good (exec Try.T ringSt (fun _ => none) 1 (tailC 8 ringB) ⟨ts, [⟨[.arr .u64 8 f], 25⟩, ⟨[.arr .u64 8 g], 25⟩, ⟨[.arr .u64 8 c], 25⟩, b3, b4, ⟨[.arr .u64 8 (limb 0)], 25⟩, b6, b7], []⟩) ringE := by
          by_cases ij : InW (sval f * sval g)
          · have segC : ∀ (ts : List AV) (b3 b4 b5 b6 b7 b9 b10 b11 b12 : Blk), Fits (ringP3 true) ts → Good (exec Try.T ringSt (fun _ => none) 1 (tailC 6 (tailC 8 ringB)) ⟨ts, [⟨[.arr .u64 8 f], 25⟩, ⟨[.arr .u64 8 g], 25⟩, ⟨[.arr .u64 8 c], 25⟩, b3, b4, b5, b6, b7, ⟨[.arr .u64 8 (limb (sval f * sval g))], 25⟩, b9, b10, b11, b12], []⟩) ringE := by
              intro ts b3 b4 b5 b6 b7 b9 b10 b11 b12 hfit
              obtain ⟨l, rfl⟩ := fits_of hfit 0
              by_cases iw : InW (sval g * sval c)
              · by_cases iP : InW (sval f * sval g * sval c)
                · simp (maxSteps := 10000000) [Try.f7, ringB, ringE, ringSt, ringP3, hf, hg, hc, R8_limb, fitV, sval_limb, hm, eqArr_iff, ij, iw, iP]
                · simp (maxSteps := 10000000) [Try.f7, ringB, ringE, ringSt, ringP3, hf, hg, hc, R8_limb, fitV, sval_limb, s0, hm, eqArr_iff, ij, iw, iP]
              · simp (maxSteps := 10000000) [Try.f7, ringB, ringE, ringSt, ringP3, hf, hg, hc, R8_limb, fitV, sval_limb, s0, ij, iw]
            generalize h3 : tailC 6 (tailC 8 ringB) = tl3 at segC
            intro ts b3 b4 b6 b7 hfit
            obtain ⟨l, rfl⟩ := fits_of hfit 0
            refine good_cut 6 h3 ?_
            clear h3
            simp (maxSteps := 10000000) [Try.f7, ringB, ringSt, ringP2, hf, hg, hc, R8_limb, fitV, sval_limb, s0, hc2, eqArr_iff, ij]
            exact segC _ _ _ _ _ _ _ _ _ _ (by simp [ringP3])
          · have segC : ∀ (ts : List AV) (b3 b4 b5 b6 b7 b9 b10 b11 b12 : Blk), Fits (ringP3 false) ts → Good (exec Try.T ringSt (fun _ => none) 1 (tailC 6 (tailC 8 ringB)) ⟨ts, [⟨[.arr .u64 8 f], 25⟩, ⟨[.arr .u64 8 g], 25⟩, ⟨[.arr .u64 8 c], 25⟩, b3, b4, b5, b6, b7, ⟨[.arr .u64 8 (limb 0)], 25⟩, b9, b10, b11, b12], []⟩) ringE := by
              intro ts b3 b4 b5 b6 b7 b9 b10 b11 b12 hfit
              obtain ⟨l, rfl⟩ := fits_of hfit 0
              simp (maxSteps := 10000000) [Try.f7, ringB, ringE, ringSt, ringP3, hf, hg, hc, R8_limb, fitV, s0]
            generalize h3 : tailC 6 (tailC 8 ringB) = tl3 at segC
            intro ts b3 b4 b6 b7 hfit
            obtain ⟨l, rfl⟩ := fits_of hfit 0
            refine good_cut 6 h3 ?_
            clear h3
            simp (maxSteps := 10000000) [Try.f7, ringB, ringSt, ringP2, hf, hg, hc, R8_limb, fitV, s0, hc2, eqArr_iff, ij]
            exact segC _ _ _ _ _ _ _ _ _ _ (by simp [ringP3])
        generalize h2 : tailC 8 ringB = tl2 at segB
        refine good_cut 8 h2 ?_
        clear h2
        by_cases ie : InW (sval f + sval g)
        · simp (maxSteps := 10000000) [Try.f7, ringB, ringSt, hf, hg, hc, R8_limb, fitV, sval_limb, s0, hc1, eqArr_iff, ig, ie]
          exact segB _ _ _ _ _ (by simp [ringP2])
        · simp (maxSteps := 10000000) [Try.f7, ringB, ringSt, hf, hg, hc, R8_limb, fitV, s0, hc1, eqArr_iff, ig, ie]
          exact segB _ _ _ _ _ (by simp [ringP2])
    · simp at h
  · simp at h

end Go.X
