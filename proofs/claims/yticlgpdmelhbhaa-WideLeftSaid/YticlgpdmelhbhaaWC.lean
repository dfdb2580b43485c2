/- Package wide: shifts to the right. -/
import Derived.Test.YticlgpdmelhbhaaWB
namespace Go.X
open Go.Proofs
attribute [local irreducible] Good

/-- a limb of what is shifted -/
def shrF (z : Int) (q r : Nat) (i : Nat) : Int := if 0 < r then limb z (i + q) / 2 ^ r + 2 ^ (64 - r) * (limb z (i + q + 1) % 2 ^ r) else limb z (i + q)
theorem shrF_limb {z : Int} {q r : Nat} (hr : r < 64) (i : Nat) : shrF z q r i = limb (z / 18446744073709551616 ^ q / 2 ^ r) i := by
  unfold shrF
  split
  · rename_i h
    rw [limb_right _ _ h hr, limb_up, limb_up, Nat.add_comm q i, show q + (i + 1) = i + q + 1 from by omega]
  · rename_i h
    have : r = 0 := by omega
    subst this
    rw [Int.pow_zero, Int.ediv_one, limb_up, Nat.add_comm q i]

set_option maxHeartbeats 4000000 in
theorem shr_loop {f : Nat → Int} (hf : R8 f) {q r : Nat} (hq : q < 8) (hr : r < 64) {m : Int} (hm : m = 64 * (q : Int) + r) {Q : Ex → St → Prop}
    (hQ : ∀ (ts : List AV) (g : Nat → Int), (∀ j, j < 8 → g j = shrF (sval f) q r j) → Fits [some (.arr .u64 8 f), some (.int .i64 m), some (.ptr 0 0), none, some (.ptr 1 0), some (.ptr 2 0), some (.fn 62 [.ptr 0 0, .ptr 2 0]), some (.ptr 3 0), none, none, none, none, none, none, none, none, none, none, none, none, none, none, none, none, none, none, none, none, none, none, none, none, none, none, none, none, none, none, none, none, none, none, none, none, none, none, none, none, none, none, none, none, none, none, none, none] ts →
      Q (.exit 0) ⟨ts, [⟨[.arr .u64 8 f], 25⟩, ⟨[.arr .u64 8 fun _ => 0], 25⟩, ⟨[.int .u64 (fillI (sval f))], 22⟩, ⟨[.arr .u64 8 g], 47⟩], []⟩)
    {c : Code} (hc : c = (match Try.f39.body with | some (.seq _ (.seq _ (.seq _ (.seq _ (.seq _ (.seq _ (.seq (.seq _ (.block _ (.loop c))) _))))))) => c | _ => .skip)) {ts : List AV} 
    (h0 : Fits [some (.arr .u64 8 f), some (.int .i64 m), some (.ptr 0 0), none, some (.ptr 1 0), some (.ptr 2 0), some (.fn 62 [.ptr 0 0, .ptr 2 0]), some (.ptr 3 0), none, none, none, none, none, none, none, none, none, none, none, none, none, none, some (.int .i64 0), none, none, none, none, none, none, none, none, none, none, none, none, none, none, none, none, none, none, none, none, none, none, none, none, none, none, none, none, none, none, none, none, none] ts) :
    Good (loopA (exec Try.T (stOf [(62, shr1S)]) (fun i => if i = 14 then some (.quiet 13) else none) 9 c) 9 ⟨ts, [⟨[.arr .u64 8 f], 25⟩, ⟨[.arr .u64 8 fun _ => 0], 25⟩, ⟨[.int .u64 (fillI (sval f))], 22⟩, ⟨[.arr .u64 8 fun _ => 0], 47⟩], []⟩) Q := by
  subst hc
  refine loop_rule (fun k s => ∃ i : Nat, i + k = 8 ∧ ∃ g : Nat → Int, (∀ j, j < i → g j = shrF (sval f) q r j) ∧ Fits [some (.arr .u64 8 f), some (.int .i64 m), some (.ptr 0 0), none, some (.ptr 1 0), some (.ptr 2 0), some (.fn 62 [.ptr 0 0, .ptr 2 0]), some (.ptr 3 0), none, none, none, none, none, none, none, none, none, none, none, none, none, none, some (.int .i64 i), none, none, none, none, none, none, none, none, none, none, none, none, none, none, none, none, none, none, none, none, none, none, none, none, none, none, none, none, none, none, none, none, none] s.ts ∧
    s.m = [⟨[.arr .u64 8 f], 25⟩, ⟨[.arr .u64 8 fun _ => 0], 25⟩, ⟨[.int .u64 (fillI (sval f))], 22⟩, ⟨[.arr .u64 8 g], 47⟩] ∧ s.df = []) ?_ 9 8 _ (by omega) ⟨0, rfl, fun _ => 0, fun j hj => absurd hj (by omega), h0, rfl, rfl⟩
  rintro k ⟨ts, mm, df⟩ ⟨i, hik, g, hg, hfit, hm', hd⟩
  simp only at hfit hm' hd
  subst hm' hd
  obtain ⟨l, rfl⟩ := fits_of hfit 0
  have td : m.tdiv 64 = q := by rw [Int.tdiv_eq_ediv_of_nonneg (by omega)]; omega
  have tm : m.tmod 64 = r := by rw [Int.tmod_eq_emod_of_nonneg (by omega)]; omega
  by_cases hi : i < 8
  · have hi1 : (i : Int) < 8 := by omega
    have hi2 : (0 : Int) ≤ i := by omega
    have w0 : IntKind.i64.wrap (q : Int) = q := wrap_i64_in (by omega) (by omega)
    have w1 : IntKind.i64.wrap ((i : Int) + q) = i + q := wrap_i64_in (by omega) (by omega)
    have w2 : IntKind.i64.wrap ((i : Int) + q + 1) = i + q + 1 := wrap_i64_in (by omega) (by omega)
    have w3 : IntKind.i64.wrap ((i : Int) + 1) = i + 1 := wrap_i64_in (by omega) (by omega)
    have g1 : (0 : Int) ≤ i + q := by omega
    have g2 : (0 : Int) ≤ i + q + 1 := by omega
    have n1 : ((i : Int) + q).toNat = i + q := by omega
    have n2 : ((i : Int) + q + 1).toNat = i + q + 1 := by omega
    have wt : IntKind.i64.wrap (64 - (r : Int)) = 64 - r := wrap_i64_in (by omega) (by omega)
    have gt : (64 - (r : Int)).toNat = 64 - r := by omega
    have ht : ¬ (64 - (r : Int)) < 0 := by omega
    have hrn : ¬ (r : Int) < 0 := by omega
    by_cases hr0 : 0 < r
    · have hr1 : (0 : Int) < r := by omega
      have ho := or_shift (limb_range (i + q) (sval f)).1 (limb_range (i + q) (sval f)).2 (y := limb (sval f) (i + q + 1)) hr0 hr
      simp [Try.f39, hi1, hi2, td, tm, w0, w1, w2, w3, g1, g2, n1, n2, wt, gt, ht, hrn, hf, hr0, hi, upd]
      refine ⟨k - 1, by omega, i + 1, by omega, fun j hj => ?_, by omega⟩
      by_cases hj' : j = i
      · subst hj'
        rw [if_pos rfl, ho]
        unfold shrF
        rw [if_pos hr0]
      · rw [if_neg hj', if_neg hj', hg j (by omega)]
    · have hr0 : r = 0 := by omega
      subst hr0
      have e0 : ∀ x : Int, shrA .u64 x 0 = x := fun x => by simp [shrA]
      simp [Try.f39, hi1, hi2, td, tm, w0, w1, w3, g1, n1, hf, hi, upd, e0]
      refine ⟨k - 1, by omega, i + 1, by omega, fun j hj => ?_, by omega⟩
      by_cases hj' : j = i
      · subst hj'
        rw [if_pos rfl]
        unfold shrF
        rw [if_neg (by omega)]
      · rw [if_neg hj', hg j (by omega)]
  · have hi1 : ¬ (i : Int) < 8 := by omega
    simp [Try.f39, hi1]
    refine hQ _ g (fun j hj => hg j (by omega)) ?_
    simp

theorem shr_ok : SumOk Try.prog 39 (pureS shrS) := by
  refine sum_fn (L := fun i => if i = 14 then some (.quiet 13) else none) (n := 9) (S := stOf [(62, shr1S)]) drawS Try.T_ok (stOf_ok (by simp [shr1_ok])) Try.func39 rfl (by kernel_rfl) (by kernel_rfl) ?_
    (by intro args v h; unfold shrS at h; split at h <;> (try split at h) <;> simp at h)
  intro args v h
  unfold shrS at h
  split at h
  · rename_i f n
    split at h
    · rename_i hc
      obtain ⟨hf, hn⟩ := hc
      cases h
      refine ⟨by simp, by simp, by simp, ?_⟩
      by_cases hneg : n < 0
      · simp [Try.f39, hneg]
        rw [show (min n 511).toNat = 0 from by omega]
        simp only [Int.pow_zero, Int.ediv_one]
        exact eqvW_self hf
      · obtain ⟨m, hm⟩ : ∃ m : Int, m = min n 511 := ⟨_, rfl⟩
        obtain ⟨q, r, hq, hr, hqr⟩ : ∃ q r : Nat, q < 8 ∧ r < 64 ∧ m = 64 * (q : Int) + r := ⟨(m / 64).toNat, (m % 64).toNat, by omega, by omega, by omega⟩
        have fill := shr_fill hf
        have fin : ∀ g : Nat → Int, (∀ j, j < 8 → g j = shrF (sval f) q r j) → Eqv (.arr .u64 8 g) (W (sval f / 2 ^ (min n 511).toNat)) := by
          intro g hg
          rw [show sval f / 2 ^ (min n 511).toNat = sval f / 18446744073709551616 ^ q / 2 ^ r from by rw [div_pow]; congr 2; omega]
          exact eqv_arr fun j hj => by rw [hg j hj, shrF_limb hr]
        by_cases hb : 511 < n
        · have hm' : m = 511 := by omega
          simp [-loopA_succ, Try.f39, hneg, hb, fill]
          simp only [good_bind, good_unblock]
          refine shr_loop hf hq hr (m := 511) (by omega) (fun ts g hg hfit => ?_) rfl ?_
          · obtain ⟨l, rfl⟩ := fits_of hfit 0
            simp
            exact fin g hg
          · simp
        · have hm' : m = n := by omega
          subst hm'
          simp [-loopA_succ, Try.f39, hneg, hb, fill]
          simp only [good_bind, good_unblock]
          refine shr_loop hf hq hr hqr (fun ts g hg hfit => ?_) rfl ?_
          · obtain ⟨l, rfl⟩ := fits_of hfit 0
            simp
            exact fin g hg
          · simp
    · simp at h
  · simp at h

end Go.X
