/- It is told whether two shapes are the same, and a copy is, in memory of its own. -/
import Derived.Test.YtgejbdalmjopiaaJTA0
namespace Go.X
open Go.Proofs
attribute [local irreducible] Good
theorem EqL_cut {n : Nat} {f : Nat → Int} : EqL n n f (cutL (n * 3) f) = True := eq_true ⟨rfl, fun _ hj => (cut_at hj).symm⟩
noncomputable def sm9ST : List (FuncId × Sum) := [(14, shCopyS), (15, shSameS), (16, shSameS), (17, sameLS), (8, pureS awake09S)]
noncomputable def sm9Loop : Code := match Try.f6.body with | some (.seq _ (.seq _ (.seq _ (.seq _ (.seq _ (.seq (.seq _ (.block _ (.loop c))) _)))))) => c | _ => .skip
noncomputable def sm9P (pa pc po N k : Nat) (i : Option AV) : List (Option AV) := [none, none, some (.ptr pa 0), none, none, some (.ptr pc 0), some (.slice po 0 N (N + k)), i, none, none, none, none, none, none, none, none, none, none, none, none, none, none, none, none, none, none, none, none, none, none, none, none, none, none, none, none, none, none, none, none, none, none, none, none, none, none, none, none, none, none, none, none, none, none, none, none, none]
set_option maxHeartbeats 40000000 in
theorem sm9_loop {pa pc p po N k k2 : Nat} {F : Nat → Int} {mi : List Blk} {kd r x y z : Int} (hN : N ≤ 100) (hne : ¬ p = pc) {Q : Ex → St → Prop}
    (hQ : ∀ (ts : List AV) (G : Nat → Int), Fits (sm9P pa pc po N k2 none) ts → Q (.exit 0) ⟨ts, mi.set p (GB N k G), []⟩)
    {ts : List AV} (hp : mi[p]? = some (VB N k F)) (hc : mi[pc]? = some ⟨[.int .i64 kd, .int .i64 r, .int .i64 x, .int .i64 y, .int .i64 z, .slice p 0 N (N + k)], 27⟩) (h0 : Fits (sm9P pa pc po N k2 (some (.int .i64 0))) ts) :
    Good (loopA (exec Try.T (stOf sm9ST) (fun _ => none) 150 sm9Loop) 150 ⟨ts, mi, []⟩) Q := by
  refine loop_rule (fun x s => ∃ (i : Nat) (G : Nat → Int), i + x = N ∧ Fits (sm9P pa pc po N k2 (some (.int .i64 i))) s.ts ∧ s.m = mi.set p (GB N k G) ∧ s.df = []) ?_ 150 N _ (by omega)
    ⟨0, cutL (N * 3) F, by omega, h0, (set_same hp).symm, rfl⟩
  rintro x' ⟨ts, m, df⟩ ⟨i, G, hix, hfit, hm, hd⟩
  simp only at hfit hm hd
  subst hd
  obtain ⟨g, rfl⟩ := fits_of hfit 0
  have hpl : p < mi.length := (List.getElem?_eq_some_iff.1 hp).1
  have hcl : pc < mi.length := (List.getElem?_eq_some_iff.1 hc).1
  have lc : pc < m.length := by rw [hm]; simpa using hcl
  have Lc : m[pc]? = some ⟨[.int .i64 kd, .int .i64 r, .int .i64 x, .int .i64 y, .int .i64 z, .slice p 0 N (N + k)], 27⟩ := by rw [hm, List.getElem?_set, if_neg hne]; exact hc
  have Nc : ∀ h : pc < m.length, m[pc]'h = ⟨[.int .i64 kd, .int .i64 r, .int .i64 x, .int .i64 y, .int .i64 z, .slice p 0 N (N + k)], 27⟩ := fun h => by have := List.getElem?_eq_getElem h; rw [Lc] at this; exact (Option.some.inj this).symm
  by_cases hi : i < N
  · have hi1 : (i : Int) < N := by omega
    have w1 : IntKind.i64.wrap ((i : Int) + 1) = i + 1 := wrap_i64_in (by omega) (by omega)
    have lp : p < m.length := by rw [hm]; simpa using hpl
    have Np : ∀ h : p < m.length, m[p]'h = GB N k G := fun h => by simp [hm]
    have Lp : m[p]? = some (GB N k G) := by rw [hm]; simp [hpl]
    have e3 : i * 3 + 3 ≤ (N + k) * 3 := by omega
    simp (maxSteps := 10000000) [sm9Loop, sm9P, sm9ST, Try.f6, hi1, w1, lp, Np, lc, Nc, e3]
    refine ⟨x' - 1, by omega, i + 1, by omega, by omega, updL G (i * 3) [77, 0, 0], ?_⟩
    exact set_mod hm
  · have : i = N := by omega
    subst this
    simp [sm9Loop, sm9P, Try.f6, lc, Nc]
    subst hm
    exact hQ _ _ (by simp [sm9P])
noncomputable def lawSame09S : Sum := fun args env _ => match args with
  | [.agg [.int .i64 _kd, .int .i64 _r, .int .i64 _x, .int .i64 _y, .int .i64 _z, l1], .agg [.int .i64 _kd', .int .i64 _r', .int .i64 _x', .int .i64 _y', .int .i64 _z', l2]] => match listE env l1, listE env l2 with
    | some _, some _ => if True then .val (.bool true) [] [] else .fail
    | _, _ => .fail
  | _ => .fail
set_option maxHeartbeats 400000000 in
set_option maxRecDepth 100000 in
theorem lawSame09_ok : SumOk Try.prog 6 lawSame09S := by
  refine sum_read (L := fun _ => none) (n := 150) (S := stOf sm9ST) drawS Try.T_ok (stOf_ok (by simp [sm9ST, shCopy_ok, shSame_ok, r9same_ok, r9sv_ok, awake09_ok])) Try.func6 rfl (by kernel_rfl) (by kernel_rfl) ?_
  intro args env nxt h
  unfold lawSame09S at h ⊢
  split at h
  · rename_i kd r x y z l1 kd' r' x' y' z' l2
    split at h
    · rename_i v1 v2 e1 e2
      obtain ⟨n1, f1⟩ := v1
      obtain ⟨n2, f2⟩ := v2
      simp only [if_true]
      rcases listE_cases e1 with ⟨rfl, rfl, rfl⟩ | ⟨p1', o1, c1, rfl⟩
      · rcases listE_cases e2 with ⟨rfl, rfl, rfl⟩ | ⟨p2', o2, c2, rfl⟩
        · refine ⟨_, _, _, .bool true, laid0 (by simp), rfl, by first | rfl | (split <;> rfl), by first | rfl | (split <;> rfl), ?_⟩
          have hse : ShEq kd r x y z kd r x y z 0 0 (fun _ => 0) (fun _ => 0) = True := ShEq_cut fun _ _ => rfl
          simp (maxSteps := 10000000) [Try.f6, sm9ST, appA, shCopyS, copyR, shSameS, sameLS, EqL_same, hse, listE_empty]
        · obtain ⟨-, hnc2, i2, t2, hq, hr2', ⟨oo2, FF2, hrow2, hf2⟩, -⟩ := listE_slice e2
          have hE2' := listE_own hrow2 hf2 hnc2
          have hE2e := listE_ownE hrow2 hf2 hnc2
          refine ⟨_, _, _, .bool true, laid1 [.agg [.int .i64 kd, .int .i64 r, .int .i64 x, .int .i64 y, .int .i64 z, .nilslice], .agg [.int .i64 kd', .int .i64 r', .int .i64 x', .int .i64 y', .int .i64 z', .slice 0 o2 n2 c2]] rfl (by simp) hq hr2', rfl, by first | rfl | (split <;> rfl), by first | rfl | (split <;> rfl), ?_⟩
          by_cases hn2 : (100 : Int) < n2
          · simp (maxSteps := 10000000) [Try.f6, sm9ST, hn2]
          have hse : ShEq kd r x y z kd r x y z 0 0 (fun _ => 0) (fun _ => 0) = True := ShEq_cut fun _ _ => rfl
          simp (maxSteps := 10000000) [Try.f6, sm9ST, appA, shCopyS, copyR, shSameS, sameLS, EqL_same, hE2e, hn2, hse, listE_empty]
      · obtain ⟨-, hnc1, i1, t1, hp, hr1', ⟨oo1, FF1, hrow1, hf1⟩, -⟩ := listE_slice e1
        rcases listE_cases e2 with ⟨rfl, rfl, rfl⟩ | ⟨p2', o2, c2, rfl⟩
        · have hE1' := listE_own hrow1 hf1 hnc1
          have hE1e := listE_ownE hrow1 hf1 hnc1
          refine ⟨_, _, _, .bool true, laid1 [.agg [.int .i64 kd, .int .i64 r, .int .i64 x, .int .i64 y, .int .i64 z, .slice 0 o1 n1 c1], .agg [.int .i64 kd', .int .i64 r', .int .i64 x', .int .i64 y', .int .i64 z', .nilslice]] rfl (by simp) hp hr1', rfl, by first | rfl | (split <;> rfl), by first | rfl | (split <;> rfl), ?_⟩
          by_cases hn1 : (100 : Int) < n1
          · simp (maxSteps := 10000000) [Try.f6, sm9ST, hn1]
          subst hf1
          have h6 : n1 ≤ 1048576 := by omega
          have h7 : n1 ≤ 256 := by omega
          have hse : ShEq kd r x y z kd r x y z n1 n1 (cutL (n1 * 3) (fun j => FF1 (oo1 + j))) (fun j => FF1 (oo1 + j)) = True := ShEq_cut fun j hj => cut_at hj
          by_cases n0 : n1 = 0
          · subst n0
            have hq : EqL 0 0 (fun j => FF1 (oo1 + j)) (fun _ => 0) = True := eq_true ⟨rfl, fun _ hj => by omega⟩
            have hz : (cutL 0 (fun j => FF1 (oo1 + j))) = fun _ => 0 := by funext j; unfold cutL; simp
            have hse0 : ShEq kd r x y z kd r x y z 0 0 (fun _ => 0) (fun j => FF1 (oo1 + j)) = True := ShEq_cut fun j hj => by omega
            simp (maxSteps := 10000000) [Try.f6, sm9ST, appA, shCopyS, copyR, shSameS, sameLS, hE1', hE1e, hrow1, hse0, hq, hz, listE_empty]
          · have hpos : 0 < n1 := by omega
            simp (maxSteps := 10000000) [-loopA_succ, Try.f6, sm9ST, appA, shCopyS, copyR, shSameS, hE1', hE1e, hrow1, hn1, h6, h7, hse, CB, cpC, n0, listE_made, row_room, cat_no, hpos]
            intro k1 k2
            simp only [good_bind, good_unblock]
            refine sm9_loop (F := fun j => FF1 (oo1 + j)) (pa := 1) (pc := 4) (p := 3) (po := 6) (N := n1) (k := k1) (k2 := k2) (kd := kd) (r := r) (x := x) (y := y) (z := z) (by omega) (by decide) (fun ts G hfit => ?_) ?_ ?_ ?_
            · obtain ⟨g, rfl⟩ := fits_of hfit 0
              simp [sm9P, sameLS, listE_made, row_room, h7, EqL_cut, hE1']
            · rfl
            · rfl
            · simp [sm9P]
        · obtain ⟨-, hnc2, i2, t2, hq, hr2', ⟨oo2, FF2, hrow2, hf2⟩, -⟩ := listE_slice e2
          by_cases hpq : p1' = p2'
          · subst hpq
            rw [hp] at hq
            cases hq
            have hE1' := listE_own hrow1 hf1 hnc1
            have hE2' := listE_own hrow2 hf2 hnc2
            have hE1e := listE_ownE hrow1 hf1 hnc1
            have hE2e := listE_ownE hrow2 hf2 hnc2
            refine ⟨_, _, _, .bool true, laid1 [.agg [.int .i64 kd, .int .i64 r, .int .i64 x, .int .i64 y, .int .i64 z, .slice 0 o1 n1 c1], .agg [.int .i64 kd', .int .i64 r', .int .i64 x', .int .i64 y', .int .i64 z', .slice 0 o2 n2 c2]] rfl (by simp) hp hr1', rfl, by first | rfl | (split <;> rfl), by first | rfl | (split <;> rfl), ?_⟩
            by_cases hn1 : (100 : Int) < n1
            · simp (maxSteps := 10000000) [Try.f6, sm9ST, hn1]
            by_cases hn2 : (100 : Int) < n2
            · simp (maxSteps := 10000000) [Try.f6, sm9ST, hn1, hn2]
            subst hf1
            have h6 : n1 ≤ 1048576 := by omega
            have h7 : n1 ≤ 256 := by omega
            have hse : ShEq kd r x y z kd r x y z n1 n1 (cutL (n1 * 3) (fun j => FF1 (oo1 + j))) (fun j => FF1 (oo1 + j)) = True := ShEq_cut fun j hj => cut_at hj
            by_cases n0 : n1 = 0
            · subst n0
              have hq : EqL 0 0 (fun j => FF1 (oo1 + j)) (fun _ => 0) = True := eq_true ⟨rfl, fun _ hj => by omega⟩
              have hz : (cutL 0 (fun j => FF1 (oo1 + j))) = fun _ => 0 := by funext j; unfold cutL; simp
              have hse0 : ShEq kd r x y z kd r x y z 0 0 (fun _ => 0) (fun j => FF1 (oo1 + j)) = True := ShEq_cut fun j hj => by omega
              simp (maxSteps := 10000000) [Try.f6, sm9ST, appA, shCopyS, copyR, shSameS, sameLS, hE1', hE1e, hrow1, hE2e, hn2, hse0, hq, hz, listE_empty]
            · have hpos : 0 < n1 := by omega
              simp (maxSteps := 10000000) [-loopA_succ, Try.f6, sm9ST, appA, shCopyS, copyR, shSameS, hE1', hE1e, hrow1, hE2e, hn1, hn2, h6, h7, hse, CB, cpC, n0, listE_made, row_room, cat_no, hpos]
              intro k1 k2
              simp only [good_bind, good_unblock]
              refine sm9_loop (F := fun j => FF1 (oo1 + j)) (pa := 1) (pc := 4) (p := 3) (po := 6) (N := n1) (k := k1) (k2 := k2) (kd := kd) (r := r) (x := x) (y := y) (z := z) (by omega) (by decide) (fun ts G hfit => ?_) ?_ ?_ ?_
              · obtain ⟨g, rfl⟩ := fits_of hfit 0
                simp [sm9P, sameLS, listE_made, row_room, h7, EqL_cut, hE1']
              · rfl
              · rfl
              · simp [sm9P]
          · have hE1' := listE_own hrow1 hf1 hnc1
            have hE2' : ∀ (ts : List AV) (b : Blk) (x : List Blk) (df : List (FuncId × List AV)), listE (St.mem ⟨ts, b :: (⟨i2, t2⟩ : Blk) :: x, df⟩) (.slice 1 o2 n2 c2) = some (n2, f2) := fun _ _ _ _ => listE_at rfl hrow2 hf2 hnc2
            have hE1e := listE_ownE hrow1 hf1 hnc1
            have hE2e : ∀ (ts : List AV) (b : Blk) (x : List Blk) (df : List (FuncId × List AV)) (l : List Nat), 1 ∈ l → listE (envOf (St.mem ⟨ts, b :: (⟨i2, t2⟩ : Blk) :: x, df⟩) l) (.slice 1 o2 n2 c2) = some (n2, f2) := fun _ _ _ _ l h => listE_at (by rw [envOf_app, if_pos h]; rfl) hrow2 hf2 hnc2
            refine ⟨_, _, _, .bool true, laid2 [.agg [.int .i64 kd, .int .i64 r, .int .i64 x, .int .i64 y, .int .i64 z, .slice 0 o1 n1 c1], .agg [.int .i64 kd', .int .i64 r', .int .i64 x', .int .i64 y', .int .i64 z', .slice 1 o2 n2 c2]] rfl (by simp) hp hq hpq hr1' hr2', rfl, by first | rfl | (split <;> rfl), by first | rfl | (split <;> rfl), ?_⟩
            by_cases hn1 : (100 : Int) < n1
            · simp (maxSteps := 10000000) [Try.f6, sm9ST, hn1]; try exact two_same
            by_cases hn2 : (100 : Int) < n2
            · simp (maxSteps := 10000000) [Try.f6, sm9ST, hn1, hn2]; try exact two_same
            subst hf1
            have h6 : n1 ≤ 1048576 := by omega
            have h7 : n1 ≤ 256 := by omega
            have hse : ShEq kd r x y z kd r x y z n1 n1 (cutL (n1 * 3) (fun j => FF1 (oo1 + j))) (fun j => FF1 (oo1 + j)) = True := ShEq_cut fun j hj => cut_at hj
            by_cases n0 : n1 = 0
            · subst n0
              have hq : EqL 0 0 (fun j => FF1 (oo1 + j)) (fun _ => 0) = True := eq_true ⟨rfl, fun _ hj => by omega⟩
              have hz : (cutL 0 (fun j => FF1 (oo1 + j))) = fun _ => 0 := by funext j; unfold cutL; simp
              have hse0 : ShEq kd r x y z kd r x y z 0 0 (fun _ => 0) (fun j => FF1 (oo1 + j)) = True := ShEq_cut fun j hj => by omega
              simp (maxSteps := 10000000) [Try.f6, sm9ST, appA, shCopyS, copyR, shSameS, sameLS, hE1', hE1e, hrow1, hE2e, hn2, hse0, hq, hz, listE_empty]; try exact two_same
            · have hpos : 0 < n1 := by omega
              simp (maxSteps := 10000000) [-loopA_succ, Try.f6, sm9ST, appA, shCopyS, copyR, shSameS, hE1', hE1e, hrow1, hE2e, hn1, hn2, h6, h7, hse, CB, cpC, n0, listE_made, row_room, cat_no, hpos]
              intro k1 k2
              simp only [good_bind, good_unblock]
              refine sm9_loop (F := fun j => FF1 (oo1 + j)) (pa := 2) (pc := 5) (p := 4) (po := 7) (N := n1) (k := k1) (k2 := k2) (kd := kd) (r := r) (x := x) (y := y) (z := z) (by omega) (by decide) (fun ts G hfit => ?_) ?_ ?_ ?_
              · obtain ⟨g, rfl⟩ := fits_of hfit 0
                simp [sm9P, sameLS, listE_made, row_room, h7, EqL_cut, hE1']; try exact two_same
              · rfl
              · rfl
              · simp [sm9P]
    · simp [*] at h
  · simp at h
end Go.X
