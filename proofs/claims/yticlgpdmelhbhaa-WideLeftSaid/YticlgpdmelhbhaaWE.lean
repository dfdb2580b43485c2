/- Package wide: a size times a power of two. -/
import Derived.Test.YticlgpdmelhbhaaZ4
namespace Go.X
open Go.Proofs
attribute [local irreducible] Good

noncomputable def leftS : List AV → PR
  | [.arr .u64 8 f, .int .i64 n] => if R8 f ∧ 0 ≤ n ∧ n < 512 then .val (W (uval f * 2 ^ n.toNat)) else .fail
  | _ => .fail
@[simp] theorem leftS_val {f : Nat → Int} {n : Int} (h : R8 f ∧ 0 ≤ n ∧ n < 512) : leftS [.arr .u64 8 f, .int .i64 n] = .val (W (uval f * 2 ^ n.toNat)) := if_pos h

set_option maxHeartbeats 4000000 in
theorem left_loop {f : Nat → Int} (hf : R8 f) {q r : Nat} (hq : q < 8) (hr : r < 64) {n : Int} (hn : n = 64 * (q : Int) + r) {Q : Ex → St → Prop}
    (hQ : ∀ (ts : List AV) (g : Nat → Int), (∀ j, j < 8 → g j = leftF f q r j) → Fits [some (.arr .u64 8 f), some (.int .i64 n), some (.ptr 0 0), none, some (.ptr 1 0), some (.ptr 2 0), none, none, none, none, none, none, none, none, none, none, none, none, none, none, none, none, none, none, none, none, none, none, none, none, none, none, none, none, none, none, none, none, none, none, none, none, none, none, none, none, none, none, none, none] ts → Q (.exit 0) ⟨ts, [⟨[.arr .u64 8 f], 47⟩, ⟨[.arr .u64 8 fun _ => 0], 47⟩, ⟨[.arr .u64 8 g], 47⟩], []⟩)
    {c : Code} (hc : c = (match Try.f64.body with | some (.seq _ (.seq _ (.seq (.seq _ (.block _ (.loop c))) _))) => c | _ => .skip)) {ts : List AV}
    (h0 : Fits [some (.arr .u64 8 f), some (.int .i64 n), some (.ptr 0 0), none, some (.ptr 1 0), some (.ptr 2 0), some (.int .i64 q), none, none, none, none, none, none, none, none, none, none, none, none, none, none, none, none, none, none, none, none, none, none, none, none, none, none, none, none, none, none, none, none, none, none, none, none, none, none, none, none, none, none, none] ts) :
    Good (loopA (exec Try.T (stOf []) (fun i => if i = 7 then some (.quiet 16) else none) 9 c) 9 ⟨ts, [⟨[.arr .u64 8 f], 47⟩, ⟨[.arr .u64 8 fun _ => 0], 47⟩, ⟨[.arr .u64 8 fun _ => 0], 47⟩], []⟩) Q := by
  subst hc
  refine loop_rule (fun k s => ∃ i : Nat, i + k = 8 ∧ q ≤ i ∧ ∃ g : Nat → Int, (∀ j, j < i → g j = leftF f q r j) ∧ (∀ j, i ≤ j → g j = 0) ∧ Fits [some (.arr .u64 8 f), some (.int .i64 n), some (.ptr 0 0), none, some (.ptr 1 0), some (.ptr 2 0), some (.int .i64 i), none, none, none, none, none, none, none, none, none, none, none, none, none, none, none, none, none, none, none, none, none, none, none, none, none, none, none, none, none, none, none, none, none, none, none, none, none, none, none, none, none, none, none] s.ts ∧ s.m = [⟨[.arr .u64 8 f], 47⟩, ⟨[.arr .u64 8 fun _ => 0], 47⟩, ⟨[.arr .u64 8 g], 47⟩] ∧ s.df = []) ?_ 9 (8 - q) _ (by omega)
    ⟨q, by omega, by omega, fun _ => 0, fun j hj => by simp [leftF, hj], fun _ _ => rfl, h0, rfl, rfl⟩
  rintro k ⟨ts, mm, df⟩ ⟨i, hik, hqi, g, hg, hg0, hfit, hm', hd⟩
  simp only at hfit hm' hd
  subst hm' hd
  obtain ⟨l, rfl⟩ := fits_of hfit 0
  have td : n.tdiv 64 = q := by rw [Int.tdiv_eq_ediv_of_nonneg (by omega)]; omega
  have tm : n.tmod 64 = r := by rw [Int.tmod_eq_emod_of_nonneg (by omega)]; omega
  by_cases hi : i < 8
  · have hi1 : (i : Int) < 8 := by omega
    have hi2 : (0 : Int) ≤ i := by omega
    have w0 : IntKind.i64.wrap (q : Int) = q := wrap_i64_in (by omega) (by omega)
    have w1 : IntKind.i64.wrap ((i : Int) - q) = i - q := wrap_i64_in (by omega) (by omega)
    have w3 : IntKind.i64.wrap ((i : Int) + 1) = i + 1 := wrap_i64_in (by omega) (by omega)
    have g1 : (0 : Int) ≤ i - q := by omega
    have g2 : (i : Int) - q < 8 := by omega
    have n1 : ((i : Int) - q).toNat = i - q := by omega
    have hrn : ¬ (r : Int) < 0 := by omega
    have g0 := hg0 i (by omega)
    have m8 : i - q < 8 := by omega
    have m9 : i - q - 1 < 8 := by omega
    by_cases hr0 : 0 < r ∧ q < i
    · obtain ⟨hr0, hqi'⟩ := hr0
      have hr1 : (0 : Int) < r := by omega
      have wt : IntKind.i64.wrap (64 - (r : Int)) = 64 - r := wrap_i64_in (by omega) (by omega)
      have gt : (64 - (r : Int)).toNat = 64 - r := by omega
      have ht : ¬ (64 - (r : Int)) < 0 := by omega
      have w2 : IntKind.i64.wrap ((i : Int) - q - 1) = i - q - 1 := wrap_i64_in (by omega) (by omega)
      have g3 : (0 : Int) ≤ i - q - 1 := by omega
      have g4 : (i : Int) - q - 1 < 8 := by omega
      have n2 : ((i : Int) - q - 1).toNat = i - q - 1 := by omega
      have c1 : (q : Int) < i := by omega
      have c2 : (1 : Int) ≤ i - q := by omega
      have ff := hf (i - q - 1) (by omega)
      have ho := or_left ff.1 ff.2 (y := f (i - q)) hr0 hr
      simp [Try.f64, hi1, hi2, td, tm, w0, w1, w2, w3, g2, g4, n1, n2, wt, gt, ht, hrn, hr0, hi, upd, c1, hqi, m8, m9, c2]
      refine ⟨k - 1, by omega, i + 1, by omega, by omega, _, fun j hj => ?_, fun j hj => ?_, by omega, rfl⟩
      · by_cases hj' : j = i
        · subst hj'
          simp only [upd, if_true, ho, leftF]
          rw [if_neg (by omega), if_pos ⟨hr0, hqi'⟩]
        · simp only [upd, hj', if_false]
          exact hg j (by omega)
      · have hj' : ¬ j = i := by omega
        simp only [upd, hj', if_false]
        exact hg0 j (by omega)
    · have sh : shlA .u64 (f (i - q)) r = f (i - q) * 2 ^ r % 18446744073709551616 := by
        simp only [shlA, IntKind.bits, wrap_u64_mod]
        rw [show min r 64 = r from by omega]
      have last : ∃ k', k' < k ∧ ∃ i_1, i_1 + k' = 8 ∧ q ≤ i_1 ∧ ∃ g_1 : Nat → Int, (∀ j, j < i_1 → g_1 j = leftF f q r j) ∧ (∀ j, i_1 ≤ j → g_1 j = 0) ∧ (i : Int) + 1 = i_1 ∧ upd g i (shlA .u64 (f (i - q)) r) = g_1 := by
        refine ⟨k - 1, by omega, i + 1, by omega, by omega, _, fun j hj => ?_, fun j hj => ?_, by omega, rfl⟩
        · by_cases hj' : j = i
          · subst hj'
            simp only [upd, if_true, sh, leftF]
            rw [if_neg (by omega), if_neg hr0]
          · simp only [upd, hj', if_false]
            exact hg j (by omega)
        · have hj' : ¬ j = i := by omega
          simp only [upd, hj', if_false]
          exact hg0 j (by omega)
      by_cases hr1 : 0 < r
      · have hr2 : (0 : Int) < r := by omega
        have hqe : ¬ q < i := fun e => hr0 ⟨hr1, e⟩
        have c1 : ¬ (q : Int) < i := by omega
        simp [Try.f64, hi1, hi2, td, tm, w0, w1, w3, g2, n1, hrn, hr1, hi, hqi, m8, c1]
        exact last
      · have hr2 : ¬ (0 : Int) < r := by omega
        simp [Try.f64, hi1, hi2, td, tm, w0, w1, w3, g2, n1, hrn, hr1, hi, hqi, m8]
        exact last
  · have hi1 : ¬ (i : Int) < 8 := by omega
    simp [Try.f64, hi1]
    refine hQ _ g (fun j hj => hg j (by omega)) ?_
    simp

theorem left_ok : SumOk Try.prog 64 (pureS leftS) := by
  refine sum_fn (L := fun i => if i = 7 then some (.quiet 16) else none) (n := 9) (S := stOf []) drawS Try.T_ok (stOf_ok (by simp)) Try.func64 rfl (by kernel_rfl) (by kernel_rfl) ?_
    (by intro args v h; unfold leftS at h; split at h <;> (try split at h) <;> simp at h)
  intro args v h
  unfold leftS at h
  split at h
  · rename_i f n
    split at h
    · rename_i hc
      obtain ⟨hf, hn, hn'⟩ := hc
      cases h
      refine ⟨by simp, by simp, by simp, ?_⟩
      obtain ⟨q, r, hq, hr, hqr⟩ : ∃ q r : Nat, q < 8 ∧ r < 64 ∧ n = 64 * (q : Int) + r := ⟨(n / 64).toNat, (n % 64).toNat, by omega, by omega, by omega⟩
      have td : n.tdiv 64 = q := by rw [Int.tdiv_eq_ediv_of_nonneg (by omega)]; omega
      have w0 : IntKind.i64.wrap (q : Int) = q := wrap_i64_in (by omega) (by omega)
      simp [-loopA_succ, Try.f64, td, w0]
      simp only [good_bind, good_unblock]
      refine left_loop hf hq hr hqr (fun ts g hg hfit => ?_) rfl ?_
      · obtain ⟨l, rfl⟩ := fits_of hfit 0
        simp
        rw [show n.toNat = 64 * q + r from by omega]
        exact eqv_arr fun j hj => by rw [hg j hj, leftF_limb hf hr hj]
      · simp
    · simp at h
  · simp at h

end Go.X
