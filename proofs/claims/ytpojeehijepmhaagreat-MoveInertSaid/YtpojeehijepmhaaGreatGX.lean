/- Shapes: are two the same, copies. -/
import Derived.Test.YtpojeehijepmhaaGreatGL
import Derived.Test.YtpojeehijepmhaaGreatGN

section
namespace Go.X
open Go.Proofs
attribute [local irreducible] Good
def LwP (kd r x y z : Int) (n : Nat) (f : Nat → Int) : Prop := InI kd ∧ InI r ∧ InI x ∧ InI y ∧ InI z ∧ ∀ j, j < n * 3 → InI (f j)
theorem LwP.sh {kd r x y z : Int} {n : Nat} {f : Nat → Int} (h : LwP kd r x y z n f) (hn : ¬ (100 : Int) < n) : ShP kd r x y z n f := ⟨h.1, h.2.1, h.2.2.1, h.2.2.2.1, h.2.2.2.2.1, by omega, h.2.2.2.2.2⟩
end Go.X
end

section
namespace Go.X
open Go.Proofs
attribute [local irreducible] Good
attribute [simp] Tryz.T_25
attribute [simp] Tryz.T_24
attribute [simp] Tryz.T_146
attribute [simp] Tryz.T_148
def EqL (n1 n2 : Nat) (f1 f2 : Nat → Int) : Prop := n1 = n2 ∧ ∀ j, j < n1 * 3 → f1 j = f2 j
noncomputable instance (n1 n2 : Nat) (f1 f2 : Nat → Int) : Decidable (EqL n1 n2 f1 f2) := Classical.propDecidable _
noncomputable def sameLS : Sum := fun args env _ => match args with
  | [l1, l2] => match listE env l1, listE env l2 with
    | some (n1, f1), some (n2, f2) => if n1 ≤ 256 then .val (.bool (decide (EqL n1 n2 f1 f2))) [] [] else .fail
    | _, _ => .fail
  | _ => .fail
theorem laid_lists {env : Mem} {p q o1 o2 n1 n2 c1 c2 : Nat} {f1 f2 : Nat → Int} (h1 : listE env (.slice p o1 n1 c1) = some (n1, f1)) (h2 : listE env (.slice q o2 n2 c2) = some (n2, f2)) :
    ∃ θ m0 a b B1 B2, Laid env [.slice p o1 n1 c1, .slice q o2 n2 c2] [.slice a o1 n1 c1, .slice b o2 n2 c2] θ m0 ∧ θ.length = m0.length ∧ m0[a]? = some B1 ∧ m0[b]? = some B2 ∧
      (∀ i, i < n1 → ∀ fs z q, loadB ⟨.struct fs, 3, z, q⟩ B1 (o1 + i * 3) = some (.agg [.int .i64 (f1 (i * 3)), .int .i64 (f1 (i * 3 + 1)), .int .i64 (f1 (i * 3 + 2))])) ∧
      (∀ i, i < n2 → ∀ fs z q, loadB ⟨.struct fs, 3, z, q⟩ B2 (o2 + i * 3) = some (.agg [.int .i64 (f2 (i * 3)), .int .i64 (f2 (i * 3 + 1)), .int .i64 (f2 (i * 3 + 2))])) := by
  obtain ⟨-, -, i1, t1, hp, hr1, -, L1⟩ := listE_slice h1
  obtain ⟨-, -, i2, t2, hq, hr2, -, L2⟩ := listE_slice h2
  by_cases hpq : p = q
  · subst hpq
    rw [hp] at hq
    cases hq
    exact ⟨[p], [⟨i1, t1⟩], 0, 0, ⟨i1, t1⟩, ⟨i1, t1⟩, laid1 _ rfl (by simp) hp hr1, rfl, rfl, rfl, L1, L2⟩
  · exact ⟨[p, q], [⟨i1, t1⟩, ⟨i2, t2⟩], 0, 1, ⟨i1, t1⟩, ⟨i2, t2⟩, laid2 _ rfl (by simp) hp hq hpq hr1 hr2, rfl, rfl, rfl, L1, L2⟩
noncomputable def r9svLoop : Code := match Tryz.f55.body with | some (.seq _ (.seq _ (.seq (.seq _ (.block _ (.loop c))) _))) => c | _ => .skip
def r9svL (i : Nat) : Option DM := if i = 6 then some (.quiet 9) else none
noncomputable def r9svP (_n : Nat) (l1 l2 : AV) (q i : Option AV) : List (Option AV) := [some l1, some l2, none, none, q, i, none, none, none, none, none, none, none, none, none, none, none, none, none, none, none, none, none, none, none, none]
set_option maxHeartbeats 4000000 in
theorem r9sv_loop {a b o1 o2 n c1 c2 : Nat} {f1 f2 : Nat → Int} {m : List Blk} {B1 B2 : Blk} (hn : n ≤ 256) (h1 : m[a]? = some B1) (h2 : m[b]? = some B2)
    (L1 : ∀ i, i < n → ∀ fs z q, loadB ⟨.struct fs, 3, z, q⟩ B1 (o1 + i * 3) = some (.agg [.int .i64 (f1 (i * 3)), .int .i64 (f1 (i * 3 + 1)), .int .i64 (f1 (i * 3 + 2))]))
    (L2 : ∀ i, i < n → ∀ fs z q, loadB ⟨.struct fs, 3, z, q⟩ B2 (o2 + i * 3) = some (.agg [.int .i64 (f2 (i * 3)), .int .i64 (f2 (i * 3 + 1)), .int .i64 (f2 (i * 3 + 2))])) {Q : Ex → St → Prop}
    (hQ1 : ∀ ts, (∀ j, j < n * 3 → f1 j = f2 j) → Fits (r9svP n (.slice a o1 n c1) (.slice b o2 n c2) none none) ts → Q (.exit 0) ⟨ts, m, []⟩)
    (hQ2 : ∀ ts, (¬ ∀ j, j < n * 3 → f1 j = f2 j) → Fits (r9svP n (.slice a o1 n c1) (.slice b o2 n c2) (some (.bool false)) none) ts → Q .ret ⟨ts, m, []⟩)
    {ts : List AV} (h0 : Fits (r9svP n (.slice a o1 n c1) (.slice b o2 n c2) none (some (.int .i64 0))) ts) :
    Good (loopA (exec Tryz.T (stOf []) r9svL 300 r9svLoop) 300 ⟨ts, m, []⟩) Q := by
  refine loop_rule (fun x s => ∃ i : Nat, i + x = n ∧ (∀ j, j < i * 3 → f1 j = f2 j) ∧ Fits (r9svP n (.slice a o1 n c1) (.slice b o2 n c2) none (some (.int .i64 i))) s.ts ∧ s.m = m ∧ s.df = []) ?_ 300 n _ (by omega) ⟨0, by omega, by omega, h0, rfl, rfl⟩
  rintro x ⟨ts, m', df⟩ ⟨i, hix, heq, hfit, hm, hd⟩
  simp only at hfit hm hd
  subst hd hm
  obtain ⟨g, rfl⟩ := fits_of hfit 0
  by_cases hi : i < n
  · have hi1 : (i : Int) < n := by omega
    have w1 : IntKind.i64.wrap ((i : Int) + 1) = i + 1 := wrap_i64_in (by omega) (by omega)
    have la : a < m'.length := (List.getElem?_eq_some_iff.1 h1).1
    have lb : b < m'.length := (List.getElem?_eq_some_iff.1 h2).1
    have Na : ∀ h : a < m'.length, m'[a]'h = B1 := fun h => (List.getElem?_eq_some_iff.1 h1).2
    have Nb : ∀ h : b < m'.length, m'[b]'h = B2 := fun h => (List.getElem?_eq_some_iff.1 h2).2
    have l1 := L1 i hi
    have l2 := L2 i hi
    by_cases he : f1 (i * 3) = f2 (i * 3) ∧ f1 (i * 3 + 1) = f2 (i * 3 + 1) ∧ f1 (i * 3 + 2) = f2 (i * 3 + 2)
    · simp [r9svLoop, r9svP, r9svL, Tryz.f55, hi1, w1, la, lb, Na, Nb, ↓l1, ↓l2, he.1, he.2.1, he.2.2]
      exact ⟨x - 1, by omega, i + 1, by omega, fun j hj => by
        by_cases hj0 : j < i * 3
        · exact heq j hj0
        · have : j = i * 3 ∨ j = i * 3 + 1 ∨ j = i * 3 + 2 := by omega
          rcases this with rfl | rfl | rfl
          · exact he.1
          · exact he.2.1
          · exact he.2.2, by omega⟩
    · have het : (¬ f1 (i * 3) = f2 (i * 3) ∨ ¬ f1 (i * 3 + 1) = f2 (i * 3 + 1) ∨ ¬ f1 (i * 3 + 2) = f2 (i * 3 + 2)) = True := eq_true (by omega)
      simp [r9svLoop, r9svP, r9svL, Tryz.f55, hi1, la, lb, Na, Nb, ↓l1, ↓l2, het]
      exact hQ2 _ (fun h => he ⟨h _ (by omega), h _ (by omega), h _ (by omega)⟩) (by simp [r9svP])
  · have : i = n := by omega
    subst this
    simp [r9svLoop, r9svP, Tryz.f55]
    exact hQ1 _ heq (by simp [r9svP])
set_option maxHeartbeats 4000000 in
theorem r9sv_ok : SumOk Tryz.prog 55 sameLS := by
  refine sum_read (L := r9svL) (n := 300) (S := stOf []) drawS Tryz.T_ok (stOf_ok (by simp)) Tryz.func55 rfl (by kernel_rfl) (by kernel_rfl) ?_
  intro args env nxt h
  unfold sameLS at h ⊢
  split at h
  · rename_i l1 l2
    split at h
    · rename_i n1 f1 n2 f2 e1 e2
      split at h
      · rename_i hn
        simp only [if_pos hn]
        rcases listE_cases e1 with ⟨rfl, rfl, rfl⟩ | ⟨p, o1, c1, rfl⟩
        · rcases listE_cases e2 with ⟨rfl, rfl, rfl⟩ | ⟨q, o2, c2, rfl⟩
          · refine ⟨_, _, _, .bool (decide (EqL 0 0 (fun _ => 0) fun _ => 0)), laid0 rfl, rfl, rfl, rfl, ?_⟩
            have ht : EqL 0 0 (fun _ => 0) fun _ => 0 := ⟨rfl, fun _ _ => rfl⟩
            simp [Tryz.f55, ht]
          · obtain ⟨-, -, i2, t2, hq, hr2, -, -⟩ := listE_slice e2
            refine ⟨_, _, _, .bool (decide (EqL 0 n2 (fun _ => 0) f2)), laid1 [.nilslice, .slice 0 o2 n2 c2] rfl (by simp) hq hr2, rfl, rfl, rfl, ?_⟩
            by_cases h0 : n2 = 0
            · subst h0
              have ht : EqL 0 0 (fun _ => 0) f2 := ⟨rfl, fun _ h => absurd h (by omega)⟩
              simp [Tryz.f55, ht]
            · have ht : ¬ EqL 0 n2 (fun _ => 0) f2 := fun h => h0 h.1.symm
              have h0' : ((0 : Int) == n2) = false := by simp; omega
              have h1' : ((0 : Int) != n2) = true := by simp; omega
              simp [Tryz.f55, ht, h1']
        · obtain ⟨-, -, i1, t1, hp, hr1, -, -⟩ := listE_slice e1
          rcases listE_cases e2 with ⟨rfl, rfl, rfl⟩ | ⟨q, o2, c2, rfl⟩
          · refine ⟨_, _, _, .bool (decide (EqL n1 0 f1 fun _ => 0)), laid1 [.slice 0 o1 n1 c1, .nilslice] rfl (by simp) hp hr1, rfl, rfl, rfl, ?_⟩
            by_cases h0 : n1 = 0
            · subst h0
              have ht : EqL 0 0 f1 (fun _ => 0) := ⟨rfl, fun _ h => absurd h (by omega)⟩
              simp [Tryz.f55, ht]
            · have ht : ¬ EqL n1 0 f1 (fun _ => 0) := fun h => h0 h.1
              simp [Tryz.f55, ht, h0]
          · obtain ⟨θ, m0, a, b, B1, B2, hlaid, hlen, g1, g2, L1, L2⟩ := laid_lists e1 e2
            refine ⟨_, θ, m0, .bool (decide (EqL n1 n2 f1 f2)), hlaid, rfl, rfl, rfl, ?_⟩
            by_cases h0 : n1 = n2
            · subst h0
              simp [-loopA_succ, Tryz.f55]
              simp only [good_bind, good_unblock]
              refine r9sv_loop (c1 := c1) (c2 := c2) hn g1 g2 L1 L2 (fun ts he hfit => ?_) (fun ts he hfit => ?_) ?_
              · obtain ⟨g, rfl⟩ := fits_of hfit 0
                have ht : EqL n1 n1 f1 f2 := ⟨rfl, he⟩
                simp [r9svP, ht]
                omega
              · obtain ⟨g, rfl⟩ := fits_of hfit 0
                have ht : ¬ EqL n1 n1 f1 f2 := fun h => he h.2
                simp [r9svP, ht]
                omega
              · simp [r9svP]
            · have ht : ¬ EqL n1 n2 f1 f2 := fun h => h0 h.1
              have h1' : ((n1 : Int) != n2) = true := by simp; omega
              have h2' : ¬ (n1 : Int) = n2 := by omega
              simp [Tryz.f55, ht, h1']
              try omega
      · simp [*] at h
    · simp [*] at h
  · simp at h
noncomputable def sleqLoop : Code := match Tryz.f54.body with | some (.seq _ (.seq _ (.seq (.seq _ (.block _ (.loop c))) _))) => c | _ => .skip
def sleqL (i : Nat) : Option DM := if i = 6 then some (.quiet 9) else none
noncomputable def sleqP (n : Nat) (l1 l2 : AV) (q i : Option AV) : List (Option AV) := [some l1, some l2, none, none, q, none, none, none, none, none, none, none, some (.int .i64 n), i, none, none, none, none, none, none, none, none, none, none, none, none]
set_option maxHeartbeats 4000000 in
theorem sleq_loop {a b o1 o2 n c1 c2 : Nat} {f1 f2 : Nat → Int} {m : List Blk} {B1 B2 : Blk} (hn : n ≤ 256) (h1 : m[a]? = some B1) (h2 : m[b]? = some B2)
    (L1 : ∀ i, i < n → ∀ fs z q, loadB ⟨.struct fs, 3, z, q⟩ B1 (o1 + i * 3) = some (.agg [.int .i64 (f1 (i * 3)), .int .i64 (f1 (i * 3 + 1)), .int .i64 (f1 (i * 3 + 2))]))
    (L2 : ∀ i, i < n → ∀ fs z q, loadB ⟨.struct fs, 3, z, q⟩ B2 (o2 + i * 3) = some (.agg [.int .i64 (f2 (i * 3)), .int .i64 (f2 (i * 3 + 1)), .int .i64 (f2 (i * 3 + 2))])) {Q : Ex → St → Prop}
    (hQ1 : ∀ ts, (∀ j, j < n * 3 → f1 j = f2 j) → Fits (sleqP n (.slice a o1 n c1) (.slice b o2 n c2) none none) ts → Q (.exit 0) ⟨ts, m, []⟩)
    (hQ2 : ∀ ts, (¬ ∀ j, j < n * 3 → f1 j = f2 j) → Fits (sleqP n (.slice a o1 n c1) (.slice b o2 n c2) (some (.bool false)) none) ts → Q .ret ⟨ts, m, []⟩)
    {ts : List AV} (h0 : Fits (sleqP n (.slice a o1 n c1) (.slice b o2 n c2) none (some (.int .i64 0))) ts) :
    Good (loopA (exec Tryz.T (stOf []) sleqL 300 sleqLoop) 300 ⟨ts, m, []⟩) Q := by
  refine loop_rule (fun x s => ∃ i : Nat, i + x = n ∧ (∀ j, j < i * 3 → f1 j = f2 j) ∧ Fits (sleqP n (.slice a o1 n c1) (.slice b o2 n c2) none (some (.int .i64 i))) s.ts ∧ s.m = m ∧ s.df = []) ?_ 300 n _ (by omega) ⟨0, by omega, by omega, h0, rfl, rfl⟩
  rintro x ⟨ts, m', df⟩ ⟨i, hix, heq, hfit, hm, hd⟩
  simp only at hfit hm hd
  subst hd hm
  obtain ⟨g, rfl⟩ := fits_of hfit 0
  by_cases hi : i < n
  · have hi1 : (i : Int) < n := by omega
    have w1 : IntKind.i64.wrap ((i : Int) + 1) = i + 1 := wrap_i64_in (by omega) (by omega)
    have la : a < m'.length := (List.getElem?_eq_some_iff.1 h1).1
    have lb : b < m'.length := (List.getElem?_eq_some_iff.1 h2).1
    have Na : ∀ h : a < m'.length, m'[a]'h = B1 := fun h => (List.getElem?_eq_some_iff.1 h1).2
    have Nb : ∀ h : b < m'.length, m'[b]'h = B2 := fun h => (List.getElem?_eq_some_iff.1 h2).2
    have l1 := L1 i hi
    have l2 := L2 i hi
    by_cases he : f1 (i * 3) = f2 (i * 3) ∧ f1 (i * 3 + 1) = f2 (i * 3 + 1) ∧ f1 (i * 3 + 2) = f2 (i * 3 + 2)
    · simp [sleqLoop, sleqP, sleqL, Tryz.f54, hi1, w1, la, lb, Na, Nb, ↓l1, ↓l2, he.1, he.2.1, he.2.2]
      exact ⟨x - 1, by omega, i + 1, by omega, fun j hj => by
        by_cases hj0 : j < i * 3
        · exact heq j hj0
        · have : j = i * 3 ∨ j = i * 3 + 1 ∨ j = i * 3 + 2 := by omega
          rcases this with rfl | rfl | rfl
          · exact he.1
          · exact he.2.1
          · exact he.2.2, by omega⟩
    · have het : (¬ f1 (i * 3) = f2 (i * 3) ∨ ¬ f1 (i * 3 + 1) = f2 (i * 3 + 1) ∨ ¬ f1 (i * 3 + 2) = f2 (i * 3 + 2)) = True := eq_true (by omega)
      simp [sleqLoop, sleqP, sleqL, Tryz.f54, hi1, la, lb, Na, Nb, ↓l1, ↓l2, het]
      exact hQ2 _ (fun h => he ⟨h _ (by omega), h _ (by omega), h _ (by omega)⟩) (by simp [sleqP])
  · have : i = n := by omega
    subst this
    simp [sleqLoop, sleqP, Tryz.f54]
    exact hQ1 _ heq (by simp [sleqP])
set_option maxHeartbeats 4000000 in
theorem sleq_ok : SumOk Tryz.prog 54 sameLS := by
  refine sum_read (L := sleqL) (n := 300) (S := stOf []) drawS Tryz.T_ok (stOf_ok (by simp)) Tryz.func54 rfl (by kernel_rfl) (by kernel_rfl) ?_
  intro args env nxt h
  unfold sameLS at h ⊢
  split at h
  · rename_i l1 l2
    split at h
    · rename_i n1 f1 n2 f2 e1 e2
      split at h
      · rename_i hn
        simp only [if_pos hn]
        rcases listE_cases e1 with ⟨rfl, rfl, rfl⟩ | ⟨p, o1, c1, rfl⟩
        · rcases listE_cases e2 with ⟨rfl, rfl, rfl⟩ | ⟨q, o2, c2, rfl⟩
          · refine ⟨_, _, _, .bool (decide (EqL 0 0 (fun _ => 0) fun _ => 0)), laid0 rfl, rfl, rfl, rfl, ?_⟩
            have ht : EqL 0 0 (fun _ => 0) fun _ => 0 := ⟨rfl, fun _ _ => rfl⟩
            simp [Tryz.f54, ht]
          · obtain ⟨-, -, i2, t2, hq, hr2, -, -⟩ := listE_slice e2
            refine ⟨_, _, _, .bool (decide (EqL 0 n2 (fun _ => 0) f2)), laid1 [.nilslice, .slice 0 o2 n2 c2] rfl (by simp) hq hr2, rfl, rfl, rfl, ?_⟩
            by_cases h0 : n2 = 0
            · subst h0
              have ht : EqL 0 0 (fun _ => 0) f2 := ⟨rfl, fun _ h => absurd h (by omega)⟩
              simp [Tryz.f54, ht]
            · have ht : ¬ EqL 0 n2 (fun _ => 0) f2 := fun h => h0 h.1.symm
              have h0' : ((0 : Int) == n2) = false := by simp; omega
              have h1' : ((0 : Int) != n2) = true := by simp; omega
              simp [Tryz.f54, ht, h1']
        · obtain ⟨-, -, i1, t1, hp, hr1, -, -⟩ := listE_slice e1
          rcases listE_cases e2 with ⟨rfl, rfl, rfl⟩ | ⟨q, o2, c2, rfl⟩
          · refine ⟨_, _, _, .bool (decide (EqL n1 0 f1 fun _ => 0)), laid1 [.slice 0 o1 n1 c1, .nilslice] rfl (by simp) hp hr1, rfl, rfl, rfl, ?_⟩
            by_cases h0 : n1 = 0
            · subst h0
              have ht : EqL 0 0 f1 (fun _ => 0) := ⟨rfl, fun _ h => absurd h (by omega)⟩
              simp [Tryz.f54, ht]
            · have ht : ¬ EqL n1 0 f1 (fun _ => 0) := fun h => h0 h.1
              simp [Tryz.f54, ht, h0]
          · obtain ⟨θ, m0, a, b, B1, B2, hlaid, hlen, g1, g2, L1, L2⟩ := laid_lists e1 e2
            refine ⟨_, θ, m0, .bool (decide (EqL n1 n2 f1 f2)), hlaid, rfl, rfl, rfl, ?_⟩
            by_cases h0 : n1 = n2
            · subst h0
              simp [-loopA_succ, Tryz.f54]
              simp only [good_bind, good_unblock]
              refine sleq_loop (c1 := c1) (c2 := c2) hn g1 g2 L1 L2 (fun ts he hfit => ?_) (fun ts he hfit => ?_) ?_
              · obtain ⟨g, rfl⟩ := fits_of hfit 0
                have ht : EqL n1 n1 f1 f2 := ⟨rfl, he⟩
                simp [sleqP, ht]
                omega
              · obtain ⟨g, rfl⟩ := fits_of hfit 0
                have ht : ¬ EqL n1 n1 f1 f2 := fun h => he h.2
                simp [sleqP, ht]
                omega
              · simp [sleqP]
            · have ht : ¬ EqL n1 n2 f1 f2 := fun h => h0 h.1
              have h1' : ((n1 : Int) != n2) = true := by simp; omega
              have h2' : ¬ (n1 : Int) = n2 := by omega
              simp [Tryz.f54, ht, h1']
              try omega
      · simp [*] at h
    · simp [*] at h
  · simp at h
end Go.X
end

section
namespace Go.X
open Go.Proofs
attribute [local irreducible] Good
def ShEq (kd r x y z kd' r' x' y' z' : Int) (n n' : Nat) (f f' : Nat → Int) : Prop := kd = kd' ∧ r = r' ∧ (x = x' ∧ y = y' ∧ z = z') ∧ EqL n n' f f'
noncomputable instance (kd r x y z kd' r' x' y' z' : Int) (n n' : Nat) (f f' : Nat → Int) : Decidable (ShEq kd r x y z kd' r' x' y' z' n n' f f') := Classical.propDecidable _
noncomputable def shSameS : Sum := fun args env _ => match args with
  | [.agg [.int .i64 kd, .int .i64 r, .int .i64 x, .int .i64 y, .int .i64 z, l1], .agg [.int .i64 kd', .int .i64 r', .int .i64 x', .int .i64 y', .int .i64 z', l2]] => match listE env l1, listE env l2 with
    | some (n1, f1), some (n2, f2) => if n1 ≤ 256 then .val (.bool (decide (ShEq kd r x y z kd' r' x' y' z' n1 n2 f1 f2))) [] [] else .fail
    | _, _ => .fail
  | _ => .fail
set_option maxHeartbeats 40000000 in
theorem r9same_ok : SumOk Tryz.prog 26 shSameS := by
  refine sum_read (L := fun _ => none) (n := 1) (S := stOf [(55, sameLS)]) drawS Tryz.T_ok (stOf_ok (by simp [r9sv_ok])) Tryz.func26 rfl (by kernel_rfl) (by kernel_rfl) ?_
  intro args env nxt h
  unfold shSameS at h ⊢
  split at h
  · rename_i kd r x y z l1 kd' r' x' y' z' l2
    split at h
    · rename_i n1 f1 n2 f2 e1 e2
      split at h
      · rename_i hn
        simp only [if_pos hn]
        rcases listE_cases e1 with ⟨rfl, rfl, rfl⟩ | ⟨p1', o1, c1, rfl⟩
        · rcases listE_cases e2 with ⟨rfl, rfl, rfl⟩ | ⟨p2', o2, c2, rfl⟩
          · refine ⟨_, _, _, .bool (decide (ShEq kd r x y z kd' r' x' y' z' 0 0 (fun _ => 0) (fun _ => 0))), laid0 (by simp), rfl, rfl, rfl, ?_⟩
            by_cases c1 : kd = kd'
            · subst c1
              by_cases c2 : r = r'
              · subst c2
                by_cases c3 : x = x' ∧ y = y' ∧ z = z'
                · obtain ⟨rfl, rfl, rfl⟩ := c3
                  simp (maxSteps := 10000000) [Tryz.f26, sameLS, hn, ShEq]
                · have c3' : (x == x' && (y == y' && z == z')) = false := by simpa using fun a b c => c3 ⟨a, b, c⟩
                  have c4 : (x = x' ∧ y = y' ∧ z = z') = False := eq_false c3
                  simp (maxSteps := 10000000) [Tryz.f26, ShEq, c4, c3']
              · have c2' : (r == r') = false := by simpa using c2
                simp (maxSteps := 10000000) [Tryz.f26, ShEq, c2, c2']
            · have c1' : (kd == kd') = false := by simpa using c1
              simp (maxSteps := 10000000) [Tryz.f26, ShEq, c1, c1']
          · obtain ⟨-, hnc2, i2, t2, hq, hr2', ⟨oo2, FF2, hrow2, hf2⟩, -⟩ := listE_slice e2
            have hE2' := listE_own hrow2 hf2 hnc2
            have hE2e := listE_ownE hrow2 hf2 hnc2
            refine ⟨_, _, _, .bool (decide (ShEq kd r x y z kd' r' x' y' z' 0 n2 (fun _ => 0) f2)), laid1 [.agg [.int .i64 kd, .int .i64 r, .int .i64 x, .int .i64 y, .int .i64 z, .nilslice], .agg [.int .i64 kd', .int .i64 r', .int .i64 x', .int .i64 y', .int .i64 z', .slice 0 o2 n2 c2]] rfl (by simp) hq hr2', rfl, rfl, rfl, ?_⟩
            by_cases c1 : kd = kd'
            · subst c1
              by_cases c2 : r = r'
              · subst c2
                by_cases c3 : x = x' ∧ y = y' ∧ z = z'
                · obtain ⟨rfl, rfl, rfl⟩ := c3
                  simp (maxSteps := 10000000) [Tryz.f26, sameLS, hE2', hn, ShEq]
                · have c3' : (x == x' && (y == y' && z == z')) = false := by simpa using fun a b c => c3 ⟨a, b, c⟩
                  have c4 : (x = x' ∧ y = y' ∧ z = z') = False := eq_false c3
                  simp (maxSteps := 10000000) [Tryz.f26, ShEq, c4, c3']
              · have c2' : (r == r') = false := by simpa using c2
                simp (maxSteps := 10000000) [Tryz.f26, ShEq, c2, c2']
            · have c1' : (kd == kd') = false := by simpa using c1
              simp (maxSteps := 10000000) [Tryz.f26, ShEq, c1, c1']
        · obtain ⟨-, hnc1, i1, t1, hp, hr1', ⟨oo1, FF1, hrow1, hf1⟩, -⟩ := listE_slice e1
          rcases listE_cases e2 with ⟨rfl, rfl, rfl⟩ | ⟨p2', o2, c2, rfl⟩
          · have hE1' := listE_own hrow1 hf1 hnc1
            have hE1e := listE_ownE hrow1 hf1 hnc1
            refine ⟨_, _, _, .bool (decide (ShEq kd r x y z kd' r' x' y' z' n1 0 f1 (fun _ => 0))), laid1 [.agg [.int .i64 kd, .int .i64 r, .int .i64 x, .int .i64 y, .int .i64 z, .slice 0 o1 n1 c1], .agg [.int .i64 kd', .int .i64 r', .int .i64 x', .int .i64 y', .int .i64 z', .nilslice]] rfl (by simp) hp hr1', rfl, rfl, rfl, ?_⟩
            by_cases c1 : kd = kd'
            · subst c1
              by_cases c2 : r = r'
              · subst c2
                by_cases c3 : x = x' ∧ y = y' ∧ z = z'
                · obtain ⟨rfl, rfl, rfl⟩ := c3
                  simp (maxSteps := 10000000) [Tryz.f26, sameLS, hE1', hn, ShEq]
                · have c3' : (x == x' && (y == y' && z == z')) = false := by simpa using fun a b c => c3 ⟨a, b, c⟩
                  have c4 : (x = x' ∧ y = y' ∧ z = z') = False := eq_false c3
                  simp (maxSteps := 10000000) [Tryz.f26, ShEq, c4, c3']
              · have c2' : (r == r') = false := by simpa using c2
                simp (maxSteps := 10000000) [Tryz.f26, ShEq, c2, c2']
            · have c1' : (kd == kd') = false := by simpa using c1
              simp (maxSteps := 10000000) [Tryz.f26, ShEq, c1, c1']
          · obtain ⟨-, hnc2, i2, t2, hq, hr2', ⟨oo2, FF2, hrow2, hf2⟩, -⟩ := listE_slice e2
            by_cases hpq : p1' = p2'
            · subst hpq
              rw [hp] at hq
              cases hq
              have hE1' := listE_own hrow1 hf1 hnc1
              have hE2' := listE_own hrow2 hf2 hnc2
              have hE1e := listE_ownE hrow1 hf1 hnc1
              have hE2e := listE_ownE hrow2 hf2 hnc2
              refine ⟨_, _, _, .bool (decide (ShEq kd r x y z kd' r' x' y' z' n1 n2 f1 f2)), laid1 [.agg [.int .i64 kd, .int .i64 r, .int .i64 x, .int .i64 y, .int .i64 z, .slice 0 o1 n1 c1], .agg [.int .i64 kd', .int .i64 r', .int .i64 x', .int .i64 y', .int .i64 z', .slice 0 o2 n2 c2]] rfl (by simp) hp hr1', rfl, rfl, rfl, ?_⟩
              by_cases c1 : kd = kd'
              · subst c1
                by_cases c2 : r = r'
                · subst c2
                  by_cases c3 : x = x' ∧ y = y' ∧ z = z'
                  · obtain ⟨rfl, rfl, rfl⟩ := c3
                    simp (maxSteps := 10000000) [Tryz.f26, sameLS, hE1', hE2', hn, ShEq]
                  · have c3' : (x == x' && (y == y' && z == z')) = false := by simpa using fun a b c => c3 ⟨a, b, c⟩
                    have c4 : (x = x' ∧ y = y' ∧ z = z') = False := eq_false c3
                    simp (maxSteps := 10000000) [Tryz.f26, ShEq, c4, c3']
                · have c2' : (r == r') = false := by simpa using c2
                  simp (maxSteps := 10000000) [Tryz.f26, ShEq, c2, c2']
              · have c1' : (kd == kd') = false := by simpa using c1
                simp (maxSteps := 10000000) [Tryz.f26, ShEq, c1, c1']
            · have hE1' := listE_own hrow1 hf1 hnc1
              have hE2' : ∀ (ts : List AV) (b : Blk) (x : List Blk) (df : List (FuncId × List AV)), listE (St.mem ⟨ts, b :: (⟨i2, t2⟩ : Blk) :: x, df⟩) (.slice 1 o2 n2 c2) = some (n2, f2) := fun _ _ _ _ => listE_at rfl hrow2 hf2 hnc2
              have hE1e := listE_ownE hrow1 hf1 hnc1
              have hE2e : ∀ (ts : List AV) (b : Blk) (x : List Blk) (df : List (FuncId × List AV)) (l : List Nat), 1 ∈ l → listE (envOf (St.mem ⟨ts, b :: (⟨i2, t2⟩ : Blk) :: x, df⟩) l) (.slice 1 o2 n2 c2) = some (n2, f2) := fun _ _ _ _ l h => listE_at (by rw [envOf_app, if_pos h]; rfl) hrow2 hf2 hnc2
              refine ⟨_, _, _, .bool (decide (ShEq kd r x y z kd' r' x' y' z' n1 n2 f1 f2)), laid2 [.agg [.int .i64 kd, .int .i64 r, .int .i64 x, .int .i64 y, .int .i64 z, .slice 0 o1 n1 c1], .agg [.int .i64 kd', .int .i64 r', .int .i64 x', .int .i64 y', .int .i64 z', .slice 1 o2 n2 c2]] rfl (by simp) hp hq hpq hr1' hr2', rfl, rfl, rfl, ?_⟩
              by_cases c1 : kd = kd'
              · subst c1
                by_cases c2 : r = r'
                · subst c2
                  by_cases c3 : x = x' ∧ y = y' ∧ z = z'
                  · obtain ⟨rfl, rfl, rfl⟩ := c3
                    simp (maxSteps := 10000000) [Tryz.f26, sameLS, hE1', hE2', hn, ShEq]; try exact two_same
                  · have c3' : (x == x' && (y == y' && z == z')) = false := by simpa using fun a b c => c3 ⟨a, b, c⟩
                    have c4 : (x = x' ∧ y = y' ∧ z = z') = False := eq_false c3
                    simp (maxSteps := 10000000) [Tryz.f26, ShEq, c4, c3']; try exact two_same
                · have c2' : (r == r') = false := by simpa using c2
                  simp (maxSteps := 10000000) [Tryz.f26, ShEq, c2, c2']; try exact two_same
              · have c1' : (kd == kd') = false := by simpa using c1
                simp (maxSteps := 10000000) [Tryz.f26, ShEq, c1, c1']; try exact two_same
      · simp [*] at h
    · simp [*] at h
  · simp at h
set_option maxHeartbeats 40000000 in
theorem shSame_ok : SumOk Tryz.prog 25 shSameS := by
  refine sum_read (L := fun _ => none) (n := 1) (S := stOf [(54, sameLS)]) drawS Tryz.T_ok (stOf_ok (by simp [sleq_ok])) Tryz.func25 rfl (by kernel_rfl) (by kernel_rfl) ?_
  intro args env nxt h
  unfold shSameS at h ⊢
  split at h
  · rename_i kd r x y z l1 kd' r' x' y' z' l2
    split at h
    · rename_i n1 f1 n2 f2 e1 e2
      split at h
      · rename_i hn
        simp only [if_pos hn]
        rcases listE_cases e1 with ⟨rfl, rfl, rfl⟩ | ⟨p1', o1, c1, rfl⟩
        · rcases listE_cases e2 with ⟨rfl, rfl, rfl⟩ | ⟨p2', o2, c2, rfl⟩
          · refine ⟨_, _, _, .bool (decide (ShEq kd r x y z kd' r' x' y' z' 0 0 (fun _ => 0) (fun _ => 0))), laid0 (by simp), rfl, rfl, rfl, ?_⟩
            by_cases c1 : kd = kd'
            · subst c1
              by_cases c2 : r = r'
              · subst c2
                by_cases c3 : x = x' ∧ y = y' ∧ z = z'
                · obtain ⟨rfl, rfl, rfl⟩ := c3
                  simp (maxSteps := 10000000) [Tryz.f25, sameLS, hn, ShEq]
                · have c3' : (x == x' && (y == y' && z == z')) = false := by simpa using fun a b c => c3 ⟨a, b, c⟩
                  have c4 : (x = x' ∧ y = y' ∧ z = z') = False := eq_false c3
                  simp (maxSteps := 10000000) [Tryz.f25, ShEq, c4, c3']
              · have c2' : (r == r') = false := by simpa using c2
                simp (maxSteps := 10000000) [Tryz.f25, ShEq, c2, c2']
            · have c1' : (kd == kd') = false := by simpa using c1
              simp (maxSteps := 10000000) [Tryz.f25, ShEq, c1, c1']
          · obtain ⟨-, hnc2, i2, t2, hq, hr2', ⟨oo2, FF2, hrow2, hf2⟩, -⟩ := listE_slice e2
            have hE2' := listE_own hrow2 hf2 hnc2
            have hE2e := listE_ownE hrow2 hf2 hnc2
            refine ⟨_, _, _, .bool (decide (ShEq kd r x y z kd' r' x' y' z' 0 n2 (fun _ => 0) f2)), laid1 [.agg [.int .i64 kd, .int .i64 r, .int .i64 x, .int .i64 y, .int .i64 z, .nilslice], .agg [.int .i64 kd', .int .i64 r', .int .i64 x', .int .i64 y', .int .i64 z', .slice 0 o2 n2 c2]] rfl (by simp) hq hr2', rfl, rfl, rfl, ?_⟩
            by_cases c1 : kd = kd'
            · subst c1
              by_cases c2 : r = r'
              · subst c2
                by_cases c3 : x = x' ∧ y = y' ∧ z = z'
                · obtain ⟨rfl, rfl, rfl⟩ := c3
                  simp (maxSteps := 10000000) [Tryz.f25, sameLS, hE2', hn, ShEq]
                · have c3' : (x == x' && (y == y' && z == z')) = false := by simpa using fun a b c => c3 ⟨a, b, c⟩
                  have c4 : (x = x' ∧ y = y' ∧ z = z') = False := eq_false c3
                  simp (maxSteps := 10000000) [Tryz.f25, ShEq, c4, c3']
              · have c2' : (r == r') = false := by simpa using c2
                simp (maxSteps := 10000000) [Tryz.f25, ShEq, c2, c2']
            · have c1' : (kd == kd') = false := by simpa using c1
              simp (maxSteps := 10000000) [Tryz.f25, ShEq, c1, c1']
        · obtain ⟨-, hnc1, i1, t1, hp, hr1', ⟨oo1, FF1, hrow1, hf1⟩, -⟩ := listE_slice e1
          rcases listE_cases e2 with ⟨rfl, rfl, rfl⟩ | ⟨p2', o2, c2, rfl⟩
          · have hE1' := listE_own hrow1 hf1 hnc1
            have hE1e := listE_ownE hrow1 hf1 hnc1
            refine ⟨_, _, _, .bool (decide (ShEq kd r x y z kd' r' x' y' z' n1 0 f1 (fun _ => 0))), laid1 [.agg [.int .i64 kd, .int .i64 r, .int .i64 x, .int .i64 y, .int .i64 z, .slice 0 o1 n1 c1], .agg [.int .i64 kd', .int .i64 r', .int .i64 x', .int .i64 y', .int .i64 z', .nilslice]] rfl (by simp) hp hr1', rfl, rfl, rfl, ?_⟩
            by_cases c1 : kd = kd'
            · subst c1
              by_cases c2 : r = r'
              · subst c2
                by_cases c3 : x = x' ∧ y = y' ∧ z = z'
                · obtain ⟨rfl, rfl, rfl⟩ := c3
                  simp (maxSteps := 10000000) [Tryz.f25, sameLS, hE1', hn, ShEq]
                · have c3' : (x == x' && (y == y' && z == z')) = false := by simpa using fun a b c => c3 ⟨a, b, c⟩
                  have c4 : (x = x' ∧ y = y' ∧ z = z') = False := eq_false c3
                  simp (maxSteps := 10000000) [Tryz.f25, ShEq, c4, c3']
              · have c2' : (r == r') = false := by simpa using c2
                simp (maxSteps := 10000000) [Tryz.f25, ShEq, c2, c2']
            · have c1' : (kd == kd') = false := by simpa using c1
              simp (maxSteps := 10000000) [Tryz.f25, ShEq, c1, c1']
          · obtain ⟨-, hnc2, i2, t2, hq, hr2', ⟨oo2, FF2, hrow2, hf2⟩, -⟩ := listE_slice e2
            by_cases hpq : p1' = p2'
            · subst hpq
              rw [hp] at hq
              cases hq
              have hE1' := listE_own hrow1 hf1 hnc1
              have hE2' := listE_own hrow2 hf2 hnc2
              have hE1e := listE_ownE hrow1 hf1 hnc1
              have hE2e := listE_ownE hrow2 hf2 hnc2
              refine ⟨_, _, _, .bool (decide (ShEq kd r x y z kd' r' x' y' z' n1 n2 f1 f2)), laid1 [.agg [.int .i64 kd, .int .i64 r, .int .i64 x, .int .i64 y, .int .i64 z, .slice 0 o1 n1 c1], .agg [.int .i64 kd', .int .i64 r', .int .i64 x', .int .i64 y', .int .i64 z', .slice 0 o2 n2 c2]] rfl (by simp) hp hr1', rfl, rfl, rfl, ?_⟩
              by_cases c1 : kd = kd'
              · subst c1
                by_cases c2 : r = r'
                · subst c2
                  by_cases c3 : x = x' ∧ y = y' ∧ z = z'
                  · obtain ⟨rfl, rfl, rfl⟩ := c3
                    simp (maxSteps := 10000000) [Tryz.f25, sameLS, hE1', hE2', hn, ShEq]
                  · have c3' : (x == x' && (y == y' && z == z')) = false := by simpa using fun a b c => c3 ⟨a, b, c⟩
                    have c4 : (x = x' ∧ y = y' ∧ z = z') = False := eq_false c3
                    simp (maxSteps := 10000000) [Tryz.f25, ShEq, c4, c3']
                · have c2' : (r == r') = false := by simpa using c2
                  simp (maxSteps := 10000000) [Tryz.f25, ShEq, c2, c2']
              · have c1' : (kd == kd') = false := by simpa using c1
                simp (maxSteps := 10000000) [Tryz.f25, ShEq, c1, c1']
            · have hE1' := listE_own hrow1 hf1 hnc1
              have hE2' : ∀ (ts : List AV) (b : Blk) (x : List Blk) (df : List (FuncId × List AV)), listE (St.mem ⟨ts, b :: (⟨i2, t2⟩ : Blk) :: x, df⟩) (.slice 1 o2 n2 c2) = some (n2, f2) := fun _ _ _ _ => listE_at rfl hrow2 hf2 hnc2
              have hE1e := listE_ownE hrow1 hf1 hnc1
              have hE2e : ∀ (ts : List AV) (b : Blk) (x : List Blk) (df : List (FuncId × List AV)) (l : List Nat), 1 ∈ l → listE (envOf (St.mem ⟨ts, b :: (⟨i2, t2⟩ : Blk) :: x, df⟩) l) (.slice 1 o2 n2 c2) = some (n2, f2) := fun _ _ _ _ l h => listE_at (by rw [envOf_app, if_pos h]; rfl) hrow2 hf2 hnc2
              refine ⟨_, _, _, .bool (decide (ShEq kd r x y z kd' r' x' y' z' n1 n2 f1 f2)), laid2 [.agg [.int .i64 kd, .int .i64 r, .int .i64 x, .int .i64 y, .int .i64 z, .slice 0 o1 n1 c1], .agg [.int .i64 kd', .int .i64 r', .int .i64 x', .int .i64 y', .int .i64 z', .slice 1 o2 n2 c2]] rfl (by simp) hp hq hpq hr1' hr2', rfl, rfl, rfl, ?_⟩
              by_cases c1 : kd = kd'
              · subst c1
                by_cases c2 : r = r'
                · subst c2
                  by_cases c3 : x = x' ∧ y = y' ∧ z = z'
                  · obtain ⟨rfl, rfl, rfl⟩ := c3
                    simp (maxSteps := 10000000) [Tryz.f25, sameLS, hE1', hE2', hn, ShEq]; try exact two_same
                  · have c3' : (x == x' && (y == y' && z == z')) = false := by simpa using fun a b c => c3 ⟨a, b, c⟩
                    have c4 : (x = x' ∧ y = y' ∧ z = z') = False := eq_false c3
                    simp (maxSteps := 10000000) [Tryz.f25, ShEq, c4, c3']; try exact two_same
                · have c2' : (r == r') = false := by simpa using c2
                  simp (maxSteps := 10000000) [Tryz.f25, ShEq, c2, c2']; try exact two_same
              · have c1' : (kd == kd') = false := by simpa using c1
                simp (maxSteps := 10000000) [Tryz.f25, ShEq, c1, c1']; try exact two_same
      · simp [*] at h
    · simp [*] at h
  · simp at h
end Go.X
end

section
namespace Go.X
open Go.Proofs
attribute [local irreducible] Good
end Go.X
end

section
namespace Go.X
open Go.Proofs
attribute [local irreducible] Good
noncomputable def CB (n k : Nat) (f : Nat → Int) : Blk := if n = 0 then ⟨[], 24⟩ else VB n k f
def cpC (n k : Nat) : Nat := if n = 0 then 0 else n + k
@[simp] theorem CB_ref {n k : Nat} {f : Nat → Int} : refsL (CB n k f).items = [] := by
  unfold CB; split <;> simp
noncomputable def rdC (n : Nat) (b : Option Blk) : Option (Nat × (Nat → Int)) := match rowB 3 .i64 b 0 n with
  | some (n', o, F) => if n' = n then some (n, fun j => F (o + j)) else none
  | none => none
theorem cpC_le {n k : Nat} : n ≤ cpC n k := by unfold cpC; split <;> omega
@[simp] theorem listE_cb {env : Mem} {p n k : Nat} : listE env (.slice p 0 n (cpC n k)) = rdC n (env p) := by
  unfold listE rdC
  have := @cpC_le n k
  simp only [this, and_true]
  rfl
@[simp] theorem rdC_CB {n k : Nat} {f : Nat → Int} : rdC n (some (CB n k f)) = some (n, cutL (n * 3) f) := by
  unfold rdC CB
  by_cases h : n = 0
  · subst h
    have : cutL (0 * 3) f = fun _ => 0 := by funext j; unfold cutL; simp
    rw [this]
    simp [rowB]
  · rw [if_neg h]
    have : n * 3 ≤ (n + k) * 3 := by omega
    simp [rowB, this]
end Go.X
end
