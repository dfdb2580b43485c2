/- Package wide: roots. -/
import Derived.Test.YticlgpdmelhbhaaWL
namespace Go.X
open Go.Proofs
attribute [local irreducible] Good

/-- the root, rounded down -/
noncomputable def rootI (a : Int) : Int := open Classical in if h : ∃ r : Int, 0 ≤ r ∧ r * r ≤ a ∧ a < (r + 1) * (r + 1) then Classical.choose h else 0
theorem root_one {a r s : Int} (hr : 0 ≤ r) (h1 : r * r ≤ a) (h2 : a < (s + 1) * (s + 1)) (hs : 0 ≤ s) : r ≤ s := by
  rcases Int.lt_or_le s r with h | h
  · have := Int.mul_le_mul (show s + 1 ≤ r by omega) (show s + 1 ≤ r by omega) (by omega) hr
    omega
  · exact h
theorem rootI_of {a r : Int} (hr : 0 ≤ r) (h1 : r * r ≤ a) (h2 : a < (r + 1) * (r + 1)) : rootI a = r := by
  have h : ∃ r : Int, 0 ≤ r ∧ r * r ≤ a ∧ a < (r + 1) * (r + 1) := ⟨r, hr, h1, h2⟩
  unfold rootI
  rw [dif_pos h]
  obtain ⟨g1, g2, g3⟩ := Classical.choose_spec h
  have := root_one g1 g2 h2 hr
  have := root_one hr h1 g3 g1
  omega

/-- what a round of the root keeps -/
structure Root (a : Int) (f : Nat → Int) (k : Nat) : Prop where
  hf : R8 f
  le : uval f * uval f ≤ a
  lt : a < (uval f + 2 ^ k) * (uval f + 2 ^ k)
  bits : ∃ c, uval f = c * 2 ^ k

theorem pow_2_256 : (2 : Int) ^ 256 * 2 ^ 256 = 2 * K5 := by rw [K5_pow, ← Int.pow_add]
theorem pow_2_pos (n : Nat) : (0 : Int) < 2 ^ n := Int.pow_pos (by decide)

theorem Root.more {a : Int} {f : Nat → Int} {j : Nat} (h : Root a f (j + 1)) (hj : j < 257) (ha : a < K5) : R8 (setF f j) ∧ sval (setF f j) = uval f + 2 ^ j ∧ uval (setF f j) = uval f + 2 ^ j := by
  obtain ⟨c, hc⟩ := h.bits
  obtain ⟨s1, s2⟩ := set_val h.hf (by omega) hc
  have h1 : (2 : Int) ^ j ≤ 2 ^ 256 := pow_le (by omega)
  have h2 := pow_2_256
  have h3 := pow_2_pos 256
  have hp := pow_2_pos j
  have hl := h.le
  have hK := K5_pos
  have u0 := (uval_bound h.hf).1
  have h4 : uval f < 2 ^ 256 := by
    rcases Int.lt_or_le (uval f) (2 ^ 256) with h' | h'
    · exact h'
    · have := Int.mul_le_mul h' h' (by omega) u0
      omega
  have h5 : (2 : Int) ^ 256 * 4 ≤ 2 ^ 256 * 2 ^ 256 := Int.mul_le_mul_of_nonneg_left (by rw [show (4 : Int) = 2 ^ 2 from rfl]; exact pow_le (by omega)) (by omega)
  refine ⟨s1, ?_, s2⟩
  have u := uval_sval s1
  have r := sval_range s1
  have hn : ¬ sval (setF f j) < 0 := by
    intro hn
    rw [if_pos hn] at u
    generalize (2 : Int) ^ 256 = p at *
    generalize (2 : Int) ^ j = q at *
    omega
  rw [if_neg hn] at u
  omega

theorem Root.take {a : Int} {f : Nat → Int} {j : Nat} (h : Root a f (j + 1)) (hj : j < 257) (ha : a < K5) (hge : (uval f + 2 ^ j) * (uval f + 2 ^ j) ≤ a) : Root a (setF f j) j := by
  obtain ⟨h1, -, h3⟩ := h.more hj ha
  obtain ⟨c, hc⟩ := h.bits
  refine ⟨h1, by rw [h3]; exact hge, ?_, ⟨c * 2 + 1, ?_⟩⟩
  · have := h.lt
    rw [Int.pow_succ] at this
    rw [h3, show uval f + 2 ^ j + 2 ^ j = uval f + 2 ^ j * 2 from by omega]
    exact this
  · rw [h3, hc, Int.pow_succ]; grind

theorem Root.pass {a : Int} {f : Nat → Int} {j : Nat} (h : Root a f (j + 1)) (hlt : a < (uval f + 2 ^ j) * (uval f + 2 ^ j)) : Root a f j := by
  obtain ⟨c, hc⟩ := h.bits
  exact ⟨h.hf, h.le, hlt, ⟨c * 2, by rw [hc, Int.pow_succ]; grind⟩⟩

noncomputable def sqrtP (f : Nat → Int) (t5 : Option AV) : List (Option AV) := [some (.arr .u64 8 f), some (.ptr 0 0), some (.ptr 1 0), some (.bool false), some (.ptr 2 0), t5, none, none, none, none, none, none, none, none, none, none, none, none, none, none, none, none, none, none, none, none, none, none, none, none, none, none, none, none, none, none, none, none, none, none, none, none, none, none, none, none, none, none]
noncomputable def sqrtM (f r : Nat → Int) (old : List Blk) : List Blk := ⟨[.arr .u64 8 f], 25⟩ :: ⟨[.arr .u64 8 fun _ => 0], 25⟩ :: ⟨[.arr .u64 8 r], 25⟩ :: old
def sqrtL (i : Nat) : Option DM := if i = 8 then some (.quiet 11) else none
noncomputable def sqrtSt : ST := stOf [(46, pureS negS), (30, pureS bitsS), (16, pureS mulS), (28, pureS cmpS)]
noncomputable def sqrtLoop : Code := match Try.f21.body with | some (.seq _ (.seq _ (.seq _ (.seq (.seq _ (.block _ (.loop c))) _)))) => c | _ => .skip

set_option maxHeartbeats 4000000 in
theorem sqrt_loop {f : Nat → Int} (hf : R8 f) {k0 : Nat} (hk0 : k0 ≤ 257) (hr0 : Root (sval f) (fun _ => 0) k0) {Q : Ex → St → Prop}
    (hQ : ∀ (ts : List AV) (r : Nat → Int) (old : List Blk), Root (sval f) r 0 → Fits (sqrtP f none) ts → Q (.exit 0) ⟨ts, sqrtM f r old, []⟩)
    {ts : List AV} (h0 : Fits (sqrtP f (some (.int .i64 ((k0 : Int) - 1)))) ts) :
    Good (loopA (exec Try.T sqrtSt sqrtL 259 sqrtLoop) 259 ⟨ts, sqrtM f (fun _ => 0) [], []⟩) Q := by
  refine loop_rule (fun k s => k ≤ 257 ∧ ∃ (r : Nat → Int) (old : List Blk), Root (sval f) r k ∧ Fits (sqrtP f (some (.int .i64 ((k : Int) - 1)))) s.ts ∧ s.m = sqrtM f r old ∧ s.df = []) ?_ 259 k0 _ (by omega)
    ⟨hk0, fun _ => 0, [], hr0, h0, rfl, rfl⟩
  rintro k ⟨ts, mm, df⟩ ⟨hk, r, old, hr, hfit, hm', hd⟩
  simp only at hfit hm' hd
  subst hm' hd
  obtain ⟨l, rfl⟩ := fits_of hfit 0
  have hsf := sval_range hf
  cases k with
  | zero =>
    simp [-loopA_succ, sqrtLoop, sqrtP, sqrtM, Try.f21]
    have hQ' := hQ
    simp only [sqrtM] at hQ'
    refine hQ' _ r old hr ?_
    simp [sqrtP]
  | succ j =>
    obtain ⟨p, hp⟩ : ∃ p, p = j / 64 := ⟨_, rfl⟩
    obtain ⟨o, ho⟩ : ∃ o, o = j % 64 := ⟨_, rfl⟩
    have td : (j : Int).tdiv 64 = p := by rw [Int.tdiv_eq_ediv_of_nonneg (by omega)]; omega
    have tm : (j : Int).tmod 64 = o := by rw [Int.tmod_eq_emod_of_nonneg (by omega)]; omega
    have w0 : IntKind.i64.wrap (p : Int) = p := wrap_i64_in (by omega) (by omega)
    have w1 : IntKind.i64.wrap ((j : Int) - 1) = j - 1 := wrap_i64_in (by omega) (by omega)
    have hp8 : p < 8 := by omega
    have hp1 : (p : Int) < 8 := by omega
    have hon : ¬ (o : Int) < 0 := by omega
    have hset : upd r p (bitsA .or .u64 (r p) (shlA .u64 1 o)) = setF r j := by rw [hp, ho]; rfl
    obtain ⟨m1, m2, m3⟩ := hr.more (by omega) hsf.2
    have hrr := hr.hf
    by_cases hge : (uval r + 2 ^ j) * (uval r + 2 ^ j) ≤ sval f
    · have hnext := hr.take (by omega) hsf.2 hge
      have hpos := Int.mul_nonneg (show 0 ≤ uval r + 2 ^ j by have := (uval_bound hrr).1; have := pow_2_pos j; omega) (show 0 ≤ uval r + 2 ^ j by have := (uval_bound hrr).1; have := pow_2_pos j; omega)
      have hi : InW ((uval r + 2 ^ j) * (uval r + 2 ^ j)) := by have := K5_pos; unfold InW; omega
      have hcmp : cmpI ((uval r + 2 ^ j) * (uval r + 2 ^ j)) (sval f) ≤ 0 := by unfold cmpI; split <;> (try split) <;> omega
      simp [-loopA_succ, sqrtLoop, sqrtP, sqrtM, sqrtSt, sqrtL, Try.f21, td, tm, w0, w1, hp8, hp1, hon, hset, m1, m2, hi, hcmp, fitV, sval_limb hi, R8_limb, hf, mod0, mod1]
      exact ⟨j, by omega, by omega, hnext, rfl⟩
    · have hnext := hr.pass (by omega)
      by_cases hi : InW ((uval r + 2 ^ j) * (uval r + 2 ^ j))
      · have hcmp : ¬ cmpI ((uval r + 2 ^ j) * (uval r + 2 ^ j)) (sval f) ≤ 0 := by unfold cmpI; split <;> (try split) <;> omega
        simp [-loopA_succ, sqrtLoop, sqrtP, sqrtM, sqrtSt, sqrtL, Try.f21, td, tm, w0, w1, hp8, hp1, hon, hset, m1, m2, fitV, R8_limb, hf, mod0, mod1, hi, hcmp, sval_limb hi]
        exact ⟨j, by omega, by omega, hnext, rfl⟩
      · simp [-loopA_succ, sqrtLoop, sqrtP, sqrtM, sqrtSt, sqrtL, Try.f21, td, tm, w0, w1, hp8, hp1, hon, hset, m1, m2, fitV, mod0, mod1, hi]
        exact ⟨j, by omega, by omega, hnext, rfl⟩

/-- the root, rounded down, of a number that is not below 0 -/
noncomputable def rootV (a : Int) : AV := if a < 0 then .tup [W 0, .bool false] else .tup [W (rootI a), .bool true]
noncomputable def sqrtS : List AV → PR
  | [.arr .u64 8 f] => if R8 f then .val (rootV (sval f)) else .fail
  | _ => .fail
@[simp] theorem sqrtS_val {f : Nat → Int} (h : R8 f) : sqrtS [.arr .u64 8 f] = .val (rootV (sval f)) := if_pos h

set_option maxHeartbeats 4000000 in
theorem sqrt_ok : SumOk Try.prog 21 (pureS sqrtS) := by
  refine sum_fn (L := sqrtL) (n := 259) (S := sqrtSt) drawS Try.T_ok (stOf_ok (by simp [negative_ok, bits_ok, mul_ok, cmp_ok])) Try.func21 rfl (by kernel_rfl) (by kernel_rfl) ?_
    (by intro args v h; unfold sqrtS at h; split at h <;> (try split at h) <;> simp at h)
  intro args v h
  unfold sqrtS at h
  split at h
  · rename_i f
    split at h
    · rename_i hf
      cases h
      refine ⟨by simp, by unfold rootV; split <;> simp, by unfold rootV; split <;> simp, ?_⟩
      by_cases hneg : sval f < 0
      · simp [Try.f21, sqrtSt, hf, neg_sval hf, hneg, rootV]
        exact eqv_tup2 eqvW_zero (Eqv.refl _)
      · have hsf := sval_range hf
        have b0 := blen_nonneg (sval f)
        have b1 := blen_lt (show 0 ≤ sval f by omega)
        have b2 := blen_le (z := sval f) (by have := K5_pos; omega)
        obtain ⟨m, hm⟩ : ∃ m : Nat, m = ((blen (sval f)).toNat + 1) / 2 := ⟨_, rfl⟩
        have w0 : IntKind.i64.wrap (blen (sval f) + 1) = blen (sval f) + 1 := wrap_i64_in (by omega) (by omega)
        have td : (blen (sval f) + 1).tdiv 2 = m := by rw [Int.tdiv_eq_ediv_of_nonneg (by omega)]; omega
        have w1 : IntKind.i64.wrap (m : Int) = m := wrap_i64_in (by omega) (by omega)
        have hr0 : Root (sval f) (fun _ => 0) (m + 1) := by
          refine ⟨R8_zero, by rw [zero_val]; omega, ?_, ⟨0, by rw [zero_val]; omega⟩⟩
          rw [zero_val, Int.zero_add, ← Int.pow_add]
          have := pow_le (a := (blen (sval f)).toNat) (b := m + 1 + (m + 1)) (by omega)
          omega
        simp [-loopA_succ, Try.f21, sqrtSt, hf, neg_sval hf, hneg, w0, w1, td]
        simp only [good_bind, good_unblock]
        refine sqrt_loop hf (k0 := m + 1) (by omega) hr0 (fun ts r old hr hfit => ?_) ?_
        · obtain ⟨l, rfl⟩ := fits_of hfit 0
          have u0 := (uval_bound hr.hf).1
          have e := rootI_of u0 hr.le (by have := hr.lt; rw [Int.pow_zero] at this; exact this)
          simp [sqrtP, sqrtM, rootV, hneg]
          rw [e]
          exact eqv_tup2 (eqvU hr.hf rfl) (Eqv.refl _)
        · simp [sqrtP]
    · simp at h
  · simp at h

end Go.X
