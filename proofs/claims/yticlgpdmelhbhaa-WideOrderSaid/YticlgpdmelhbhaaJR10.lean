/- Cmp is an order, which Add of one number to both keeps, and Neg turns; it is that of int64 numbers. -/
import Derived.Test.YticlgpdmelhbhaaGE
import Derived.Test.YticlgpdmelhbhaaGR
namespace Go.X
open Go.Proofs
attribute [local irreducible] Good
set_option maxRecDepth 100000

noncomputable def lawOrderS : List AV → PR
  | [.arr .u64 8 f, .arr .u64 8 g, .arr .u64 8 c, .int .i64 d, .int .i64 e] => if R8 f ∧ R8 g ∧ R8 c ∧ (-9223372036854775808 ≤ d ∧ d < 9223372036854775808) ∧ (-9223372036854775808 ≤ e ∧ e < 9223372036854775808) then .val (.bool true) else .fail
  | _ => .fail
noncomputable def ordSt : ST := stOf [(28, pureS cmpS), (32, pureS addS), (34, pureS negateS), (25, pureS ofS), (18, pureS awakeS)]
noncomputable def ordB : Code := Try.f10.body.getD .skip
noncomputable def ordP2 (f g c : Nat → Int) (d e x : Int) : List (Option AV) := [some (.arr .u64 8 f), some (.arr .u64 8 g), some (.arr .u64 8 c), some (.int .i64 d), some (.int .i64 e), some (.ptr 0 0), some (.ptr 1 0), some (.ptr 2 0), none, none, some (.bool false), some (.int .i64 x), none, none, none, none, none, none, none, none, none, none, none, none, none, none, none, none, none, none, none, none, none, none, none, none, none, none, none, none, none, none, none, none, none, none, none, none, none, none, none, none, none, none, none, none, none, none, none, none, none, none, none, none, none, none, none, none, none, none, none, none, none, none, none, none, none, none, none, none, none, none, none, none, none, none, none, none, none, none, none, none, none, none, none, none, none, none, none, none, none, none, none, none, none, none, none, none, none, none, none, none, none, none, none, none, none, none, none, none, none, none, none, none, none, none, none, none, none, none, none, none, none, none, none, none, none, none, none]
noncomputable def ordP3 (d e : Int) : List (Option AV) := [none, none, none, some (.int .i64 d), some (.int .i64 e), none, none, none, none, none, none, none, none, none, none, none, none, none, none, none, none, none, none, none, none, none, none, none, none, none, none, none, none, none, none, none, none, none, none, none, none, none, none, none, none, none, none, none, none, none, none, none, none, none, none, none, none, none, none, none, none, none, none, none, none, none, none, none, none, none, none, none, none, none, none, none, none, none, none, none, none, none, none, none, none, none, none, none, none, none, none, none, none, none, none, none, none, none, none, none, none, none, none, none, none, none, none, none, none, none, none, none, none, none, none, none, none, none, none, none, none, none, none, none, none, none, none, none, none, none, none, none, none, none, none, none, none, none, none]
def ordE (x : Ex) (s : St) : Prop := Ends Try.T Try.f10.results.toList (fun u _ => Eqv u (.bool true)) (fun _ _ => False) x s

set_option maxHeartbeats 40000000 in
theorem lawOrder_ok : SumOk Try.prog 10 (pureS lawOrderS) := by
  refine sum_fn (L := fun _ => none) (n := 1) (c := ordB) (S := ordSt) drawS Try.T_ok
    (stOf_ok (by simp [cmp_ok, add_ok, negate_ok, of_ok, awake_ok])) Try.func10 rfl (by kernel_rfl) (by kernel_rfl) ?_
    (by intro args v h; unfold lawOrderS at h; split at h <;> (try split at h) <;> simp at h)
  intro args v h
  unfold lawOrderS at h
  split at h
  · rename_i f g c d e
    split at h
    · rename_i hc
      obtain ⟨hf, hg, hc, hd, he⟩ := hc
      cases h
      refine ⟨by simp, by simp, by simp, ?_⟩
      have ra := sval_range hf; have rb := sval_range hg; have rc := sval_range hc
      have anti : ∀ x y : Int, cmpI x y = - cmpI y x := by intro x y; unfold cmpI; (repeat' split) <;> omega
      have rng : ∀ x y : Int, -1 ≤ cmpI x y ∧ cmpI x y ≤ 1 := by intro x y; unfold cmpI; (repeat' split) <;> omega
      have zero : ∀ x y : Int, cmpI x y = 0 ↔ x = y := by intro x y; unfold cmpI; (repeat' split) <;> omega
      have addc : ∀ x y z : Int, cmpI (x + z) (y + z) = cmpI x y := by intro x y z; unfold cmpI; (repeat' split) <;> omega
      have negc : ∀ x y : Int, cmpI (-x) (-y) = - cmpI x y := by intro x y; unfold cmpI; (repeat' split) <;> omega
      have tr1 : cmpI (sval f) (sval g) ≤ 0 → cmpI (sval g) (sval c) ≤ 0 → ¬ 0 < cmpI (sval f) (sval c) := by unfold cmpI; (repeat' split) <;> omega
      have tr2 : cmpI (sval f) (sval g) < 0 → cmpI (sval g) (sval c) ≤ 0 → ¬ 0 ≤ cmpI (sval f) (sval c) := by unfold cmpI; (repeat' split) <;> omega
      have a1 : cmpI (sval g) (sval f) = - cmpI (sval f) (sval g) := anti _ _
      have z1 := zero (sval f) (sval g)
      have r1 := rng (sval f) (sval g)
      have ld : cmpI d e < 0 ↔ d < e := by unfold cmpI; (repeat' split) <;> omega
      have zd := zero d e
      have zdb : (cmpI d e == 0) = (d == e) := by rw [Bool.eq_iff_iff]; simp [zd]
      have sd := sval_small hd; have se := sval_small he
      have q1 := eqArr_iff hf hg
      generalize hx : cmpI (sval f) (sval g) = x at *
      generalize hy : cmpI (sval g) (sval c) = y at *
      generalize hz : cmpI (sval f) (sval c) = z at *
      have w1 : IntKind.i64.wrap (- x) = - x := wrap_i64_in (by omega) (by omega)
      have w2 : IntKind.i64.wrap x = x := wrap_i64_in (by omega) (by omega)
      -- the last piece: int64 numbers
      have seg3 : ∀ (ts : List AV) (m : List Blk), Fits (ordP3 d e) ts → Good (exec Try.T ordSt (fun _ => none) 1 (tailC 5 (tailC 3 ordB)) ⟨ts, m, []⟩) ordE := by
        intro ts m hfit
        obtain ⟨l, rfl⟩ := fits_of hfit 0
        simp (maxSteps := 10000000) [ordB, ordE, ordP3, Try.f10, ordSt, hd, he, R8_limb, sd, se, ld, zdb]
      generalize h3 : tailC 5 (tailC 3 ordB) = tl3 at seg3
      -- sums and opposites
      have seg2 : ∀ (ts : List AV), Fits (ordP2 f g c d e x) ts → Good (exec Try.T ordSt (fun _ => none) 1 (tailC 3 ordB) ⟨ts, [⟨[.arr .u64 8 f], 25⟩, ⟨[.arr .u64 8 g], 25⟩, ⟨[.arr .u64 8 c], 25⟩], []⟩) ordE := by
        intro ts hfit
        obtain ⟨l, rfl⟩ := fits_of hfit 0
        refine good_cut 5 h3 ?_
        clear h3
        have wx : IntKind.i64.wrap x = x := w2
        by_cases i1 : InW (sval f + sval c)
        · by_cases i2 : InW (sval g + sval c)
          · by_cases i3 : InW (- sval f)
            · by_cases i4 : InW (- sval g)
              · simp (maxSteps := 10000000) [ordB, ordP2, Try.f10, ordSt, hf, hg, hc, R8_limb, fitV, sval_limb, hx, addc, negc, w1, i1, i2, i3, i4]
                exact seg3 _ _ (by simp [ordP3])
              · simp (maxSteps := 10000000) [ordB, ordP2, Try.f10, ordSt, hf, hg, hc, R8_limb, fitV, sval_limb, hx, addc, i1, i2, i3, i4]
                exact seg3 _ _ (by simp [ordP3])
            · simp (maxSteps := 10000000) [ordB, ordP2, Try.f10, ordSt, hf, hg, hc, R8_limb, fitV, sval_limb, hx, addc, i1, i2, i3]
              exact seg3 _ _ (by simp [ordP3])
          · by_cases i3 : InW (- sval f)
            · by_cases i4 : InW (- sval g)
              · simp (maxSteps := 10000000) [ordB, ordP2, Try.f10, ordSt, hf, hg, hc, R8_limb, fitV, sval_limb, hx, negc, w1, i1, i2, i3, i4]
                exact seg3 _ _ (by simp [ordP3])
              · simp (maxSteps := 10000000) [ordB, ordP2, Try.f10, ordSt, hf, hg, hc, fitV, i1, i2, i3, i4]
                exact seg3 _ _ (by simp [ordP3])
            · simp (maxSteps := 10000000) [ordB, ordP2, Try.f10, ordSt, hf, hg, hc, fitV, i1, i2, i3]
              exact seg3 _ _ (by simp [ordP3])
        · by_cases i3 : InW (- sval f)
          · by_cases i4 : InW (- sval g)
            · simp (maxSteps := 10000000) [ordB, ordP2, Try.f10, ordSt, hf, hg, hc, R8_limb, fitV, sval_limb, hx, negc, w1, i1, i3, i4]
              exact seg3 _ _ (by simp [ordP3])
            · simp (maxSteps := 10000000) [ordB, ordP2, Try.f10, ordSt, hf, hg, hc, fitV, i1, i3, i4]
              exact seg3 _ _ (by simp [ordP3])
          · simp (maxSteps := 10000000) [ordB, ordP2, Try.f10, ordSt, hf, hg, hc, fitV, i1, i3]
            exact seg3 _ _ (by simp [ordP3])
      generalize h2 : tailC 3 ordB = tl2 at seg2
      have fin : ∀ (ts : List AV), Fits (ordP2 f g c d e x) ts → Good (exec Try.T ordSt (fun _ => none) 1 tl2 ⟨ts, [⟨[.arr .u64 8 f], 25⟩, ⟨[.arr .u64 8 g], 25⟩, ⟨[.arr .u64 8 c], 25⟩], []⟩) ordE := seg2
      clear seg2 seg3
      refine good_cut 3 h2 ?_
      clear h2 h3
      by_cases x1 : x < 0
      · have x2 : ¬ x = 0 := by omega
        have x3 : x ≤ 0 := by omega
        have n1 : ¬ sval f = sval g := fun e => x2 (z1.2 e)
        by_cases y1 : y ≤ 0
        · have z3 := tr1 x3 y1
          have z4 := tr2 x1 y1
          simp (maxSteps := 10000000) [ordB, Try.f10, ordSt, hf, hg, hc, hx, hy, hz, a1, q1, w2, x1, x2, x3, n1, y1, z3, z4]
          exact fin _ (by simp [ordP2])
        · simp (maxSteps := 10000000) [ordB, Try.f10, ordSt, hf, hg, hc, hx, hy, hz, a1, q1, w2, x1, x2, x3, n1, y1]
          exact fin _ (by simp [ordP2])
      · by_cases x2 : x = 0
        · have x3 : x ≤ 0 := by omega
          have n0 : sval f = sval g := z1.1 x2
          have n1 : decide (sval f = sval g) = true := decide_eq_true n0
          by_cases y1 : y ≤ 0
          · have z3 := tr1 x3 y1
            subst x2
            simp (maxSteps := 10000000) [ordB, Try.f10, ordSt, hf, hg, hc, hx, hy, hz, a1, q1, w2, n1, y1, z3]
            exact fin _ (by simp [ordP2])
          · subst x2
            simp (maxSteps := 10000000) [ordB, Try.f10, ordSt, hf, hg, hc, hx, hy, hz, a1, q1, w2, n1, y1]
            exact fin _ (by simp [ordP2])
        · have x3 : ¬ x ≤ 0 := by omega
          have n1 : ¬ sval f = sval g := fun e => x2 (z1.2 e)
          simp (maxSteps := 10000000) [ordB, Try.f10, ordSt, hf, hg, hc, hx, hy, hz, a1, q1, w2, x1, x2, x3, n1]
          exact fin _ (by simp [ordP2])
    · simp at h
  · simp at h

end Go.X
