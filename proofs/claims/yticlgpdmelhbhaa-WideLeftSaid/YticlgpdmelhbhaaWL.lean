/- Package wide: times a power of two. -/
import Derived.Test.YticlgpdmelhbhaaWK
namespace Go.X
open Go.Proofs
attribute [local irreducible] Good

noncomputable def shlP (f : Nat → Int) (n : Int) (t7 : Option AV) : List (Option AV) := [some (.arr .u64 8 f), some (.int .i64 n), some (.ptr 0 0), none, some (.ptr 1 0), some (.bool false), some (.ptr 2 0), t7, none, none, none, none, none, none, none, none, none, none, none, none, none, none, none, none, none, none, none, none, none, none, none, none, none, none, none, none, none, none, none, none, none, none, none, none, none, none, none, none, none, none, none, none, none, none, none, none, none, none, none, none, none, none, none, none, none, none, none, none, none]
noncomputable def shlM (f g : Nat → Int) : List Blk := [⟨[.arr .u64 8 f], 25⟩, ⟨[.arr .u64 8 fun _ => 0], 25⟩, ⟨[.arr .u64 8 g], 47⟩]
def shlL (i : Nat) : Option DM := if i = 15 then some (.quiet 14) else none
noncomputable def shlLoop : Code := match Try.f37.body with | some (.seq _ (.seq _ (.seq _ (.seq _ (.seq _ (.seq (.seq _ (.block _ (.loop c))) _)))))) => c | _ => .skip

theorem upd_same {g : Nat → Int} {i : Nat} {v : Int} : upd g i v i = v := by simp [upd]
theorem upd_twice {g : Nat → Int} {i : Nat} {u v : Int} : upd (upd g i u) i v = upd g i v := by
  funext j; unfold upd; split <;> rfl

set_option maxHeartbeats 4000000 in
theorem shl_loop {f : Nat → Int} (hf : R8 f) {q r : Nat} (hq : q < 8) (hr : r < 64) {n : Int} (hn : n = 64 * (q : Int) + r) {Q : Ex → St → Prop}
    (hQ : ∀ (ts : List AV) (g : Nat → Int), (∀ j, j < 8 → g j = leftF f q r j) → Fits (shlP f n none) ts → Q (.exit 0) ⟨ts, shlM f g, []⟩)
    {ts : List AV} (h0 : Fits (shlP f n (some (.int .i64 7))) ts) :
    Good (loopA (exec Try.T (stOf [(39, pureS shrS)]) shlL 9 shlLoop) 9 ⟨ts, shlM f (fun _ => 0), []⟩) Q := by
  refine loop_rule (fun k s => k ≤ 8 ∧ ∃ g : Nat → Int, (∀ j, k ≤ j → j < 8 → g j = leftF f q r j) ∧ (∀ j, j < k → g j = 0) ∧ Fits (shlP f n (some (.int .i64 ((k : Int) - 1)))) s.ts ∧ s.m = shlM f g ∧ s.df = []) ?_ 9 8 _ (by omega)
    ⟨by omega, fun _ => 0, fun j h1 h2 => by omega, fun _ _ => rfl, by simpa using h0, rfl, rfl⟩
  rintro k ⟨ts, mm, df⟩ ⟨hk8, g, hg, hg0, hfit, hm', hd⟩
  simp only at hfit hm' hd
  subst hm' hd
  obtain ⟨l, rfl⟩ := fits_of hfit 0
  have td : n.tdiv 64 = q := by rw [Int.tdiv_eq_ediv_of_nonneg (by omega)]; omega
  have tm : n.tmod 64 = r := by rw [Int.tmod_eq_emod_of_nonneg (by omega)]; omega
  by_cases hk : 0 < k
  · obtain ⟨i, rfl⟩ : ∃ i, k = i + 1 := ⟨k - 1, by omega⟩
    have e1 : ((i + 1 : Nat) : Int) - 1 = i := by omega
    have hi1 : (i : Int) < 8 := by omega
    have hi2 : (0 : Int) ≤ i := by omega
    have hi : i < 8 := by omega
    have w0 : IntKind.i64.wrap (q : Int) = q := wrap_i64_in (by omega) (by omega)
    have w1 : IntKind.i64.wrap ((i : Int) - q) = i - q := wrap_i64_in (by omega) (by omega)
    have w3 : IntKind.i64.wrap ((i : Int) - 1) = i - 1 := wrap_i64_in (by omega) (by omega)
    have g1 : (i : Int) - q < 8 := by omega
    have n1 : ((i : Int) - q).toNat = i - q := by omega
    have hrn : ¬ (r : Int) < 0 := by omega
    have g0 := hg0 i (by omega)
    have m8 : i - q < 8 := by omega
    have m9 : i - q - 1 < 8 := by omega
    have next : ∀ v, v = leftF f q r i → (∀ j, i ≤ j → j < 8 → upd g i v j = leftF f q r j) ∧ ∀ j, j < i → upd g i v j = 0 := by
      intro v hv
      refine ⟨fun j h1 h2 => ?_, fun j h1 => ?_⟩
      · unfold upd
        by_cases hj : j = i
        · rw [if_pos hj, hj, hv]
        · rw [if_neg hj]; exact hg j (by omega) h2
      · unfold upd
        rw [if_neg (by omega)]
        exact hg0 j (by omega)
    by_cases hqi : q ≤ i
    · have c0 : (q : Int) ≤ i := by omega
      by_cases hr0 : 0 < r ∧ q < i
      · obtain ⟨hr0, hqi'⟩ := hr0
        have hr1 : (0 : Int) < r := by omega
        have wt : IntKind.i64.wrap (64 - (r : Int)) = 64 - r := wrap_i64_in (by omega) (by omega)
        have gt : (64 - (r : Int)).toNat = 64 - r := by omega
        have ht : ¬ (64 - (r : Int)) < 0 := by omega
        have w2 : IntKind.i64.wrap ((i : Int) - q - 1) = i - q - 1 := wrap_i64_in (by omega) (by omega)
        have g3 : (0 : Int) ≤ i - q - 1 := by omega
        have g4 : (i : Int) - q - 1 < 8 := by omega
        have n2 : ((i : Int) - q - 1).toNat = i - q - 1 := by omega
        have c1 : (q : Int) < i := by omega
        have c2 : (1 : Int) ≤ i - q := by omega
        have ff := hf (i - q - 1) (by omega)
        have ho := or_left ff.1 ff.2 (y := f (i - q)) hr0 hr
        simp [shlLoop, shlP, shlM, shlL, Try.f37, hi1, hi2, td, tm, w0, w1, w2, w3, g1, g4, n1, n2, wt, gt, ht, hrn, hr0, hi, c0, c1, m8, m9, c2]
        obtain ⟨h1, h2⟩ := next _ (show f (i - q) * 2 ^ r % 18446744073709551616 + f (i - q - 1) / 2 ^ (64 - r) = leftF f q r i by unfold leftF; rw [if_neg (by omega), if_pos ⟨hr0, hqi'⟩])
        exact ⟨i, by omega, by omega, _, h1, h2, rfl, by rw [upd_same, upd_twice, ho]⟩
      · have sh : shlA .u64 (f (i - q)) r = f (i - q) * 2 ^ r % 18446744073709551616 := by
          simp only [shlA, IntKind.bits, wrap_u64_mod]
          rw [show min r 64 = r from by omega]
        obtain ⟨h1, h2⟩ := next _ (show f (i - q) * 2 ^ r % 18446744073709551616 = leftF f q r i by unfold leftF; rw [if_neg (by omega), if_neg hr0])
        by_cases hr1 : 0 < r
        · have hr2 : (0 : Int) < r := by omega
          have hqe : ¬ q < i := fun e => hr0 ⟨hr1, e⟩
          have c1 : ¬ (q : Int) < i := by omega
          simp [shlLoop, shlP, shlM, Try.f37, hi1, hi2, td, tm, w0, w1, w3, g1, n1, hrn, hi, m8, hr1, c0, c1]
          exact ⟨i, by omega, by omega, _, h1, h2, rfl, by rw [sh]⟩
        · have hr2 : ¬ (0 : Int) < r := by omega
          simp [shlLoop, shlP, shlM, Try.f37, hi1, hi2, td, tm, w0, w1, w3, g1, n1, hrn, hi, m8, hr1, c0]
          exact ⟨i, by omega, by omega, _, h1, h2, rfl, by rw [sh]⟩
    · have c0 : ¬ (q : Int) ≤ i := by omega
      obtain ⟨h1, h2⟩ := next 0 (show 0 = leftF f q r i by unfold leftF; rw [if_pos (by omega)])
      have hid : upd g i 0 = g := by
        funext j; unfold upd; split
        · rename_i e; rw [e, g0]
        · rfl
      rw [hid] at h1 h2
      simp [shlLoop, shlP, shlM, Try.f37, hi2, td, w0, w1, w3, c0]
      exact ⟨i, by omega, by omega, g, h1, h2, rfl, rfl⟩
  · have : k = 0 := by omega
    subst this
    simp [shlLoop, shlP, shlM, Try.f37]
    have hQ' := hQ
    simp only [shlM] at hQ'
    refine hQ' _ g (fun j hj => hg j (by omega) hj) ?_
    simp [shlP]


/-- times a power of two, if that fits -/
noncomputable def shlV (a n : Int) : AV := if n < 0 then .tup [W 0, .bool false] else fitV (a * 2 ^ n.toNat)
noncomputable def shlS : List AV → PR
  | [.arr .u64 8 f, .int .i64 n] => if R8 f ∧ n < 9223372036854775808 then .val (shlV (sval f) n) else .fail
  | _ => .fail
@[simp] theorem shlS_val {f : Nat → Int} {n : Int} (h : R8 f ∧ n < 9223372036854775808) : shlS [.arr .u64 8 f, .int .i64 n] = .val (shlV (sval f) n) := if_pos h

theorem pow_2_511 : (2 : Int) ^ 511 = K5 := by
  have h := K5_pow
  rw [show (512 : Nat) = 511 + 1 from rfl, Int.pow_succ] at h
  generalize (2 : Int) ^ 511 = a at *
  omega
theorem uval_congr {f g : Nat → Int} (h : ∀ j, j < 8 → f j = g j) : uval f = uval g := by
  unfold uval
  rw [h 0 (by omega), h 1 (by omega), h 2 (by omega), h 3 (by omega), h 4 (by omega), h 5 (by omega), h 6 (by omega), h 7 (by omega)]
theorem InW_ediv {z d : Int} (h : InW z) (hd : 0 < d) : InW (z / d) := by
  obtain ⟨h1, h2⟩ := h
  have hK := K5_pos
  by_cases hz : 0 ≤ z
  · have := Int.ediv_nonneg hz (Int.le_of_lt hd)
    have := Int.ediv_le_self d hz
    exact ⟨by omega, by omega⟩
  · have : z / d < 0 := Int.ediv_neg_of_neg_of_pos (by omega) hd
    have : z ≤ z / d := by
      apply (Int.le_ediv_iff_mul_le hd).2
      have := Int.mul_le_mul_of_nonpos_left (a := z) (by omega) (show 1 ≤ d by omega)
      omega
    exact ⟨by omega, by omega⟩

theorem shl_far {a : Int} (ha : a ≠ 0) {n : Nat} (hn : 511 < n) : ¬ InW (a * 2 ^ n) := by
  have h1 : (2 : Int) ^ 512 ≤ 2 ^ n := pow_le (by omega)
  have h2 := K5_pow
  have hK := K5_pos
  unfold InW
  by_cases h : 0 < a
  · have := Int.mul_le_mul_of_nonneg_right (show 1 ≤ a by omega) (show (0 : Int) ≤ 2 ^ n by omega)
    omega
  · have := Int.mul_le_mul_of_nonneg_right (show a ≤ -1 by omega) (show (0 : Int) ≤ 2 ^ n by omega)
    omega

/-- what is shifted forth and back -/
theorem shl_back {f : Nat → Int} (hf : R8 f) {n : Nat} (hn : n ≤ 511) {p : Nat → Int} (hp : R8 p) (hv : ∃ k, uval p = uval f * 2 ^ n + 2 * K5 * k) : (sval p / 2 ^ n = sval f ↔ InW (sval f * 2 ^ n)) ∧ (InW (sval f * 2 ^ n) → sval p = sval f * 2 ^ n) := by
  have h2 : (0 : Int) < 2 ^ n := Int.pow_pos (by decide)
  have h3 : (2 : Int) ^ n ≤ 2 ^ 511 := pow_le hn
  rw [pow_2_511] at h3
  obtain ⟨k, hk⟩ := hv
  obtain ⟨k1, hk1⟩ := sval_uval f
  obtain ⟨k2, hk2⟩ := sval_uval p
  have rp := sval_range hp
  have e : sval p = sval f * 2 ^ n + 2 * K5 * (k + k1 * 2 ^ n - k2) := by
    have : uval f * 2 ^ n = sval f * 2 ^ n + 2 * K5 * (k1 * 2 ^ n) := by rw [hk1]; grind
    rw [this] at hk
    have e2 : 2 * K5 * (k + k1 * 2 ^ n - k2) = 2 * K5 * k + 2 * K5 * (k1 * 2 ^ n) - 2 * K5 * k2 := by grind
    rw [e2]
    omega
  generalize k + k1 * 2 ^ n - k2 = j at e
  have hK := K5_pos
  have zero : ∀ d : Int, -(2 * K5) < 2 * K5 * d → 2 * K5 * d < 2 * K5 → d = 0 := by
    intro d h1 h2
    rcases Int.lt_trichotomy d 0 with h | h | h
    · have := Int.mul_le_mul_of_nonneg_left (show d ≤ -1 by omega) (show (0 : Int) ≤ 2 * K5 by omega)
      omega
    · exact h
    · have := Int.mul_le_mul_of_nonneg_left (show 1 ≤ d by omega) (show (0 : Int) ≤ 2 * K5 by omega)
      omega
  have fits : InW (sval f * 2 ^ n) → sval p = sval f * 2 ^ n := by
    intro hi
    unfold InW at hi
    have := zero j (by omega) (by omega)
    rw [e, this]; omega
  refine ⟨⟨fun h => ?_, fun h => ?_⟩, fits⟩
  · have h4 := Int.emod_nonneg (sval p) (show (2 : Int) ^ n ≠ 0 by omega)
    have h5 := Int.emod_lt_of_pos (sval p) h2
    have h6 := Int.mul_ediv_add_emod (sval p) (2 ^ n)
    rw [h, Int.mul_comm] at h6
    have := zero j (by omega) (by omega)
    rw [this] at e
    unfold InW
    omega
  · rw [fits h, Int.mul_ediv_cancel _ (by omega)]

set_option maxHeartbeats 4000000 in
theorem shl_ok : SumOk Try.prog 37 (pureS shlS) := by
  refine sum_fn (L := shlL) (n := 9) (S := stOf [(39, pureS shrS)]) drawS Try.T_ok (stOf_ok (by simp [shr_ok])) Try.func37 rfl (by kernel_rfl) (by kernel_rfl) ?_
    (by intro args v h; unfold shlS at h; split at h <;> (try split at h) <;> simp at h)
  intro args v h
  unfold shlS at h
  split at h
  · rename_i f n
    split at h
    · rename_i hc
      obtain ⟨hf, hn⟩ := hc
      cases h
      refine ⟨by simp, by unfold shlV fitV; split <;> simp, by unfold shlV fitV; split <;> simp, ?_⟩
      by_cases hneg : n < 0
      · simp [Try.f37, hneg, shlV]
        exact eqv_tup2 eqvW_zero (Eqv.refl _)
      · by_cases hz : sval f = 0
        · have hi : InW 0 := by have := K5_pos; unfold InW; omega
          simp [Try.f37, hneg, shlV, eqArr_iff hf R8_zero, sval_zero, hz, fitV, hi]
          exact eqv_tup2 (eqvW_of hf hz) (Eqv.refl _)
        · by_cases hb : 511 < n
          · have hi : ¬ InW (sval f * 2 ^ n.toNat) := shl_far hz (by omega)
            simp [Try.f37, hneg, hb, shlV, eqArr_iff hf R8_zero, sval_zero, hz, fitV, hi]
            exact eqv_tup2 eqvW_zero (Eqv.refl _)
          · obtain ⟨q, r, hq, hr, hqr⟩ : ∃ q r : Nat, q < 8 ∧ r < 64 ∧ n = 64 * (q : Int) + r := ⟨(n / 64).toNat, (n % 64).toNat, by omega, by omega, by omega⟩
            simp [-loopA_succ, Try.f37, hneg, hb, eqArr_iff hf R8_zero, sval_zero, hz]
            simp only [good_bind, good_unblock]
            refine shl_loop hf hq hr hqr (fun ts g hg hfit => ?_) ?_
            · obtain ⟨l, rfl⟩ := fits_of hfit 0
              have hg' : ∀ j, j < 8 → g j = limb (uval f * 2 ^ n.toNat) j := fun j hj => by rw [hg j hj, leftF_limb hf hr hj, show n.toNat = 64 * q + r from by omega]
              have hgr : R8 g := fun j hj => by rw [hg' j hj]; exact limb_range _ _
              have hu : uval g = uval (limb (uval f * 2 ^ n.toNat)) := uval_congr hg'
              have hm : min n 511 = n := by omega
              obtain ⟨b1, b2⟩ := shl_back hf (n := n.toNat) (by omega) hgr ⟨-(uval f * 2 ^ n.toNat / (2 * K5)), by
                rw [hu, uval_limb, Int.emod_def]; grind⟩
              have hw := InW_ediv (sval_range hgr) (show (0 : Int) < 2 ^ n.toNat from Int.pow_pos (by decide))
              have hv := sval_limb hw
              by_cases hi : InW (sval f * 2 ^ n.toNat)
              · simp [shlP, shlM, shlL, hgr, hn, hm, eqArr_iff (R8_limb _) hf, hv, b1, hi, shlV, hneg, fitV]
                exact eqv_tup2 (eqvW_of hgr (b2 hi)) (Eqv.refl _)
              · simp [shlP, shlM, shlL, hgr, hn, hm, eqArr_iff (R8_limb _) hf, hv, b1, hi, shlV, hneg, fitV]
                exact eqv_tup2 eqvW_zero (Eqv.refl _)
            · simp [shlP]
    · simp at h
  · simp at h

end Go.X
