/- Package wide: quotients of sizes. -/
import Derived.Test.YticlgpdmelhbhaaZ5
namespace Go.X
open Go.Proofs
attribute [local irreducible] Good

/-- what a round of the division keeps -/
structure Div (a b q r s : Nat → Int) (k : Nat) : Prop where
  hq : R8 q
  hr : R8 r
  hs : R8 s
  small : uval r < uval b * 2 ^ k
  sum : uval q * uval b + uval r = uval a
  bits : ∃ c, uval q = c * 2 ^ k
  step : ∀ j, k = j + 1 → uval s = uval b * 2 ^ j

theorem Div.take {a b q r s : Nat → Int} {j : Nat} (h : Div a b q r s (j + 1)) (hj : j < 512) (hge : uval s ≤ uval r) : Div a b (setF q j) (plusF r (notF s) 1) (halfF s) j := by
  obtain ⟨c, hc⟩ := h.bits
  obtain ⟨s1, s2⟩ := set_val h.hq hj hc
  have e := less_val h.hr h.hs hge
  have hs := h.step j rfl
  have hsum := h.sum
  have hsmall := h.small
  refine ⟨s1, R8_plus _ _ _, R8_half h.hs, ?_, ?_, ⟨2 * c + 1, ?_⟩, fun i hi => ?_⟩
  · rw [e, hs]
    rw [Int.pow_succ] at hsmall
    have : uval b * (2 ^ j * 2) = uval b * 2 ^ j + uval b * 2 ^ j := by grind
    omega
  · rw [s2, e, hs, Int.add_mul]
    have : (2 : Int) ^ j * uval b = uval b * 2 ^ j := Int.mul_comm _ _
    omega
  · rw [s2, hc, Int.pow_succ]; grind
  · subst hi
    rw [half_val h.hs, hs, Int.pow_succ, ← Int.mul_assoc, Int.mul_ediv_cancel _ (by decide)]

theorem Div.pass {a b q r s : Nat → Int} {j : Nat} (h : Div a b q r s (j + 1)) (hlt : uval r < uval s) : Div a b q r (halfF s) j := by
  obtain ⟨c, hc⟩ := h.bits
  have hs := h.step j rfl
  refine ⟨h.hq, h.hr, R8_half h.hs, by rw [← hs]; exact hlt, h.sum, ⟨c * 2, ?_⟩, fun i hi => ?_⟩
  · rw [hc, Int.pow_succ]; grind
  · subst hi
    rw [half_val h.hs, hs, Int.pow_succ, ← Int.mul_assoc, Int.mul_ediv_cancel _ (by decide)]

theorem app0 {α : Type} {o l : List α} {t : α} : (o ++ t :: l)[o.length]? = some t := by simp
theorem app1 {α : Type} {o l : List α} {t u : α} : (o ++ t :: u :: l)[o.length + 1]? = some u := by
  rw [List.getElem?_append_right (by omega), show o.length + 1 - o.length = 1 from by omega]; rfl
theorem mod0 {α : Type} {l : List α} {t : α} {f : α → α} : ∀ {o : List α}, (o ++ t :: l).modify o.length f = o ++ f t :: l
  | [] => rfl
  | a :: o => by simp only [List.cons_append, List.length_cons, List.modify_succ_cons]; rw [mod0]
theorem mod1 {α : Type} {l : List α} {t u : α} {f : α → α} : ∀ {o : List α}, (o ++ t :: u :: l).modify (o.length + 1) f = o ++ t :: f u :: l
  | [] => rfl
  | a :: o => by simp only [List.cons_append, List.length_cons, List.modify_succ_cons]; rw [mod1]

set_option maxHeartbeats 4000000 in
theorem parts_loop {a b : Nat → Int} {s0 : Nat → Int} {k0 : Nat} (hk0 : k0 ≤ 512) (hd0 : Div a b (fun _ => 0) a s0 k0) {Q : Ex → St → Prop}
    (hQ : ∀ (ts : List AV) (q r s : Nat → Int) (old : List Blk), Div a b q r s 0 → Fits [some (.arr .u64 8 a), some (.arr .u64 8 b), some (.ptr 0 0), some (.ptr 1 0), some (.ptr 2 0), some (.ptr 3 0), none, none, none, none, none, none, none, none, none, none, none, none, none, none, none, none, none, none, none, none, none, none, none, none, none, none, none, none, none, none, none, none, none, none, none, none, none, none, none, none, none] ts → Q (.exit 0) ⟨ts, ⟨[.arr .u64 8 a], 47⟩ :: ⟨[.arr .u64 8 b], 47⟩ :: ⟨[.arr .u64 8 q], 47⟩ :: ⟨[.arr .u64 8 r], 47⟩ :: (old ++ [⟨[.arr .u64 8 s], 47⟩]), []⟩)
    {c : Code} (hc : c = (match Try.f53.body with | some (.seq _ (.seq _ (.seq _ (.seq _ (.seq (.seq _ (.block _ (.loop c))) _))))) => c | _ => .skip)) {ts : List AV}
    (h0 : Fits [some (.arr .u64 8 a), some (.arr .u64 8 b), some (.ptr 0 0), some (.ptr 1 0), some (.ptr 2 0), some (.ptr 3 0), some (.int .i64 ((k0 : Int) - 1)), some (.ptr 4 0), none, none, none, none, none, none, none, none, none, none, none, none, none, none, none, none, none, none, none, none, none, none, none, none, none, none, none, none, none, none, none, none, none, none, none, none, none, none, none] ts) :
    Good (loopA (exec Try.T (stOf [(61, pureS lengthS), (64, pureS leftS), (60, pureS aboveS), (54, pureS plusS), (55, pureS notS), (65, pureS halfS)]) (fun i => if i = 3 then some (.orders [[0, 1, 2, 3], [1, 0, 2, 3], [0, 2, 1, 3]]) else if i = 9 then some (.quiet 4) else if i = 10 then some (.quiet 9) else if i = 14 then some (.orders [[0, 1, 2, 3], [1, 0, 2, 3], [0, 2, 1, 3]]) else none) 514 c) 514 ⟨ts, [⟨[.arr .u64 8 a], 47⟩, ⟨[.arr .u64 8 b], 47⟩, ⟨[.arr .u64 8 fun _ => 0], 47⟩, ⟨[.arr .u64 8 a], 47⟩, ⟨[.arr .u64 8 s0], 47⟩], []⟩) Q := by
  subst hc
  refine loop_rule (fun k s => k ≤ 512 ∧ ∃ (q r t : Nat → Int) (old : List Blk), Div a b q r t k ∧ Fits [some (.arr .u64 8 a), some (.arr .u64 8 b), some (.ptr 0 0), some (.ptr 1 0), some (.ptr 2 0), some (.ptr 3 0), some (.int .i64 ((k : Int) - 1)), some (.ptr (old.length + 4) 0), none, none, none, none, none, none, none, none, none, none, none, none, none, none, none, none, none, none, none, none, none, none, none, none, none, none, none, none, none, none, none, none, none, none, none, none, none, none, none] s.ts ∧ s.m = ⟨[.arr .u64 8 a], 47⟩ :: ⟨[.arr .u64 8 b], 47⟩ :: ⟨[.arr .u64 8 q], 47⟩ :: ⟨[.arr .u64 8 r], 47⟩ :: (old ++ [⟨[.arr .u64 8 t], 47⟩]) ∧ s.df = []) ?_ 514 k0 _ (by omega)
    ⟨hk0, fun _ => 0, a, s0, [], hd0, h0, rfl, rfl⟩
  rintro k ⟨ts, mm, df⟩ ⟨hk, q, r, t, old, hdiv, hfit, hm', hd⟩
  simp only at hfit hm' hd
  subst hm' hd
  obtain ⟨l, rfl⟩ := fits_of hfit 0
  cases k with
  | zero =>
    simp [-loopA_succ, Try.f53]
    refine hQ _ q r t old hdiv ?_
    simp
  | succ j =>
    obtain ⟨p, hp⟩ : ∃ p, p = j / 64 := ⟨_, rfl⟩
    obtain ⟨o, ho⟩ : ∃ o, o = j % 64 := ⟨_, rfl⟩
    have td : (j : Int).tdiv 64 = p := by rw [Int.tdiv_eq_ediv_of_nonneg (by omega)]; omega
    have tm : (j : Int).tmod 64 = o := by rw [Int.tmod_eq_emod_of_nonneg (by omega)]; omega
    have w0 : IntKind.i64.wrap (p : Int) = p := wrap_i64_in (by omega) (by omega)
    have w1 : IntKind.i64.wrap ((j : Int) - 1) = j - 1 := wrap_i64_in (by omega) (by omega)
    have hp8 : p < 8 := by omega
    have hp1 : (p : Int) < 8 := by omega
    have hon : ¬ (o : Int) < 0 := by omega
    have hset : upd q p (bitsA .or .u64 (q p) (shlA .u64 1 o)) = setF q j := by rw [hp, ho]; rfl
    have hq := hdiv.hq
    have hr := hdiv.hr
    have hs := hdiv.hs
    have hns := R8_not hs
    by_cases hge : uval t ≤ uval r
    · have hcmp : 0 ≤ cmpI (uval r) (uval t) := by unfold cmpI; split <;> (try split) <;> omega
      have hnext := hdiv.take (by omega) hge
      simp [-loopA_succ, Try.f53, td, tm, w0, w1, hp8, hp1, hon, hr, hs, hns, hcmp, mod0, mod1]
      exact ⟨j, by omega, by omega, setF q j, plusF r (notF t) 1, halfF t, hnext, old ++ [⟨[.arr .u64 8 (halfF t)], 47⟩], ⟨rfl, by simp⟩, hset, rfl, by simp⟩
    · have hcmp : ¬ 0 ≤ cmpI (uval r) (uval t) := by unfold cmpI; split <;> (try split) <;> omega
      have hnext := hdiv.pass (by omega)
      simp [-loopA_succ, Try.f53, w1, hr, hs, hcmp, mod0, mod1]
      exact ⟨j, by omega, by omega, q, r, halfF t, hnext, old ++ [⟨[.arr .u64 8 (halfF t)], 47⟩], ⟨rfl, by simp⟩, rfl, rfl, by simp⟩

end Go.X
