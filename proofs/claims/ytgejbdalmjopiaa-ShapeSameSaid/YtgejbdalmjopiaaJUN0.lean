/- Are two lists the same? -/
import Derived.Test.YtgejbdalmjopiaaGN
namespace Go.X
open Go.Proofs
attribute [local irreducible] Good
attribute [simp] Try.T_25
attribute [simp] Try.T_24
attribute [simp] Try.T_73
attribute [simp] Try.T_75

/-- two lists that are the same, number by number -/
def EqL (n1 n2 : Nat) (f1 f2 : Nat → Int) : Prop := n1 = n2 ∧ ∀ j, j < n1 * 3 → f1 j = f2 j
noncomputable instance (n1 n2 : Nat) (f1 f2 : Nat → Int) : Decidable (EqL n1 n2 f1 f2) := Classical.propDecidable _
noncomputable def sameLS : Sum := fun args env _ => match args with
  | [l1, l2] => match listE env l1, listE env l2 with
    | some (n1, f1), some (n2, f2) => if n1 ≤ 256 then .val (.bool (decide (EqL n1 n2 f1 f2))) [] [] else .fail
    | _, _ => .fail
  | _ => .fail
/-- two lists among the arguments: in blocks of their own, or in one -/
theorem laid_lists {env : Mem} {p q o1 o2 n1 n2 c1 c2 : Nat} {f1 f2 : Nat → Int} (h1 : listE env (.slice p o1 n1 c1) = some (n1, f1)) (h2 : listE env (.slice q o2 n2 c2) = some (n2, f2)) :
    ∃ θ m0 a b B1 B2, Laid env [.slice p o1 n1 c1, .slice q o2 n2 c2] [.slice a o1 n1 c1, .slice b o2 n2 c2] θ m0 ∧ θ.length = m0.length ∧ m0[a]? = some B1 ∧ m0[b]? = some B2 ∧
      (∀ i, i < n1 → ∀ fs z q, loadB ⟨.struct fs, 3, z, q⟩ B1 (o1 + i * 3) = some (.agg [.int .i64 (f1 (i * 3)), .int .i64 (f1 (i * 3 + 1)), .int .i64 (f1 (i * 3 + 2))])) ∧
      (∀ i, i < n2 → ∀ fs z q, loadB ⟨.struct fs, 3, z, q⟩ B2 (o2 + i * 3) = some (.agg [.int .i64 (f2 (i * 3)), .int .i64 (f2 (i * 3 + 1)), .int .i64 (f2 (i * 3 + 2))])) := by
  obtain ⟨-, -, i1, t1, hp, hr1, -, L1⟩ := listE_slice h1
  obtain ⟨-, -, i2, t2, hq, hr2, -, L2⟩ := listE_slice h2
  by_cases hpq : p = q
  · subst hpq
    rw [hp] at hq
    cases hq
    exact ⟨[p], [⟨i1, t1⟩], 0, 0, ⟨i1, t1⟩, ⟨i1, t1⟩, laid1 _ rfl (by simp) hp hr1, rfl, rfl, rfl, L1, L2⟩
  · exact ⟨[p, q], [⟨i1, t1⟩, ⟨i2, t2⟩], 0, 1, ⟨i1, t1⟩, ⟨i2, t2⟩, laid2 _ rfl (by simp) hp hq hpq hr1 hr2, rfl, rfl, rfl, L1, L2⟩
noncomputable def r9svLoop : Code := match Try.f17.body with | some (.seq _ (.seq _ (.seq (.seq _ (.block _ (.loop c))) _))) => c | _ => .skip
def r9svL (i : Nat) : Option DM := if i = 6 then some (.quiet 9) else none
noncomputable def r9svP (_n : Nat) (l1 l2 : AV) (q i : Option AV) : List (Option AV) := [some l1, some l2, none, none, q, i, none, none, none, none, none, none, none, none, none, none, none, none, none, none, none, none, none, none, none, none]
set_option maxHeartbeats 4000000 in
theorem r9sv_loop {a b o1 o2 n c1 c2 : Nat} {f1 f2 : Nat → Int} {m : List Blk} {B1 B2 : Blk} (hn : n ≤ 256) (h1 : m[a]? = some B1) (h2 : m[b]? = some B2)
    (L1 : ∀ i, i < n → ∀ fs z q, loadB ⟨.struct fs, 3, z, q⟩ B1 (o1 + i * 3) = some (.agg [.int .i64 (f1 (i * 3)), .int .i64 (f1 (i * 3 + 1)), .int .i64 (f1 (i * 3 + 2))]))
    (L2 : ∀ i, i < n → ∀ fs z q, loadB ⟨.struct fs, 3, z, q⟩ B2 (o2 + i * 3) = some (.agg [.int .i64 (f2 (i * 3)), .int .i64 (f2 (i * 3 + 1)), .int .i64 (f2 (i * 3 + 2))])) {Q : Ex → St → Prop}
    (hQ1 : ∀ ts, (∀ j, j < n * 3 → f1 j = f2 j) → Fits (r9svP n (.slice a o1 n c1) (.slice b o2 n c2) none none) ts → Q (.exit 0) ⟨ts, m, []⟩)
    (hQ2 : ∀ ts, (¬ ∀ j, j < n * 3 → f1 j = f2 j) → Fits (r9svP n (.slice a o1 n c1) (.slice b o2 n c2) (some (.bool false)) none) ts → Q .ret ⟨ts, m, []⟩)
    {ts : List AV} (h0 : Fits (r9svP n (.slice a o1 n c1) (.slice b o2 n c2) none (some (.int .i64 0))) ts) :
    Good (loopA (exec Try.T (stOf []) r9svL 300 r9svLoop) 300 ⟨ts, m, []⟩) Q := by
  refine loop_rule (fun x s => ∃ i : Nat, i + x = n ∧ (∀ j, j < i * 3 → f1 j = f2 j) ∧ Fits (r9svP n (.slice a o1 n c1) (.slice b o2 n c2) none (some (.int .i64 i))) s.ts ∧ s.m = m ∧ s.df = []) ?_ 300 n _ (by omega) ⟨0, by omega, by omega, h0, rfl, rfl⟩
  rintro x ⟨ts, m', df⟩ ⟨i, hix, heq, hfit, hm, hd⟩
  simp only at hfit hm hd
  subst hd hm
  obtain ⟨g, rfl⟩ := fits_of hfit 0
  by_cases hi : i < n
  · have hi1 : (i : Int) < n := by omega
    have w1 : IntKind.i64.wrap ((i : Int) + 1) = i + 1 := wrap_i64_in (by omega) (by omega)
    have la : a < m'.length := (List.getElem?_eq_some_iff.1 h1).1
    have lb : b < m'.length := (List.getElem?_eq_some_iff.1 h2).1
    have Na : ∀ h : a < m'.length, m'[a]'h = B1 := fun h => (List.getElem?_eq_some_iff.1 h1).2
    have Nb : ∀ h : b < m'.length, m'[b]'h = B2 := fun h => (List.getElem?_eq_some_iff.1 h2).2
    have l1 := L1 i hi
    have l2 := L2 i hi
    by_cases he : f1 (i * 3) = f2 (i * 3) ∧ f1 (i * 3 + 1) = f2 (i * 3 + 1) ∧ f1 (i * 3 + 2) = f2 (i * 3 + 2)
    · simp [r9svLoop, r9svP, r9svL, Try.f17, hi1, w1, la, lb, Na, Nb, ↓l1, ↓l2, he.1, he.2.1, he.2.2]
      exact ⟨x - 1, by omega, i + 1, by omega, fun j hj => by
        by_cases hj0 : j < i * 3
        · exact heq j hj0
        · have : j = i * 3 ∨ j = i * 3 + 1 ∨ j = i * 3 + 2 := by omega
          rcases this with rfl | rfl | rfl
          · exact he.1
          · exact he.2.1
          · exact he.2.2, by omega⟩
    · have het : (¬ f1 (i * 3) = f2 (i * 3) ∨ ¬ f1 (i * 3 + 1) = f2 (i * 3 + 1) ∨ ¬ f1 (i * 3 + 2) = f2 (i * 3 + 2)) = True := eq_true (by omega)
      simp [r9svLoop, r9svP, r9svL, Try.f17, hi1, la, lb, Na, Nb, ↓l1, ↓l2, het]
      exact hQ2 _ (fun h => he ⟨h _ (by omega), h _ (by omega), h _ (by omega)⟩) (by simp [r9svP])
  · have : i = n := by omega
    subst this
    simp [r9svLoop, r9svP, Try.f17]
    exact hQ1 _ heq (by simp [r9svP])
set_option maxHeartbeats 4000000 in
theorem r9sv_ok : SumOk Try.prog 17 sameLS := by
  refine sum_read (L := r9svL) (n := 300) (S := stOf []) drawS Try.T_ok (stOf_ok (by simp)) Try.func17 rfl (by kernel_rfl) (by kernel_rfl) ?_
  intro args env nxt h
  unfold sameLS at h ⊢
  split at h
  · rename_i l1 l2
    split at h
    · rename_i n1 f1 n2 f2 e1 e2
      split at h
      · rename_i hn
        simp only [if_pos hn]
        rcases listE_cases e1 with ⟨rfl, rfl, rfl⟩ | ⟨p, o1, c1, rfl⟩
        · rcases listE_cases e2 with ⟨rfl, rfl, rfl⟩ | ⟨q, o2, c2, rfl⟩
          · refine ⟨_, _, _, .bool (decide (EqL 0 0 (fun _ => 0) fun _ => 0)), laid0 rfl, rfl, rfl, rfl, ?_⟩
            have ht : EqL 0 0 (fun _ => 0) fun _ => 0 := ⟨rfl, fun _ _ => rfl⟩
            simp [Try.f17, ht]
          · obtain ⟨-, -, i2, t2, hq, hr2, -, -⟩ := listE_slice e2
            refine ⟨_, _, _, .bool (decide (EqL 0 n2 (fun _ => 0) f2)), laid1 [.nilslice, .slice 0 o2 n2 c2] rfl (by simp) hq hr2, rfl, rfl, rfl, ?_⟩
            by_cases h0 : n2 = 0
            · subst h0
              have ht : EqL 0 0 (fun _ => 0) f2 := ⟨rfl, fun _ h => absurd h (by omega)⟩
              simp [Try.f17, ht]
            · have ht : ¬ EqL 0 n2 (fun _ => 0) f2 := fun h => h0 h.1.symm
              have h0' : ((0 : Int) == n2) = false := by simp; omega
              have h1' : ((0 : Int) != n2) = true := by simp; omega
              simp [Try.f17, ht, h1']
        · obtain ⟨-, -, i1, t1, hp, hr1, -, -⟩ := listE_slice e1
          rcases listE_cases e2 with ⟨rfl, rfl, rfl⟩ | ⟨q, o2, c2, rfl⟩
          · refine ⟨_, _, _, .bool (decide (EqL n1 0 f1 fun _ => 0)), laid1 [.slice 0 o1 n1 c1, .nilslice] rfl (by simp) hp hr1, rfl, rfl, rfl, ?_⟩
            by_cases h0 : n1 = 0
            · subst h0
              have ht : EqL 0 0 f1 (fun _ => 0) := ⟨rfl, fun _ h => absurd h (by omega)⟩
              simp [Try.f17, ht]
            · have ht : ¬ EqL n1 0 f1 (fun _ => 0) := fun h => h0 h.1
              simp [Try.f17, ht, h0]
          · obtain ⟨θ, m0, a, b, B1, B2, hlaid, hlen, g1, g2, L1, L2⟩ := laid_lists e1 e2
            refine ⟨_, θ, m0, .bool (decide (EqL n1 n2 f1 f2)), hlaid, rfl, rfl, rfl, ?_⟩
            by_cases h0 : n1 = n2
            · subst h0
              simp [-loopA_succ, Try.f17]
              simp only [good_bind, good_unblock]
              refine r9sv_loop (c1 := c1) (c2 := c2) hn g1 g2 L1 L2 (fun ts he hfit => ?_) (fun ts he hfit => ?_) ?_
              · obtain ⟨g, rfl⟩ := fits_of hfit 0
                have ht : EqL n1 n1 f1 f2 := ⟨rfl, he⟩
                simp [r9svP, ht]
                omega
              · obtain ⟨g, rfl⟩ := fits_of hfit 0
                have ht : ¬ EqL n1 n1 f1 f2 := fun h => he h.2
                simp [r9svP, ht]
                omega
              · simp [r9svP]
            · have ht : ¬ EqL n1 n2 f1 f2 := fun h => h0 h.1
              have h1' : ((n1 : Int) != n2) = true := by simp; omega
              have h2' : ¬ (n1 : Int) = n2 := by omega
              simp [Try.f17, ht, h1']
              try omega
      · simp [*] at h
    · simp [*] at h
  · simp at h
noncomputable def sleqLoop : Code := match Try.f28.body with | some (.seq _ (.seq _ (.seq (.seq _ (.block _ (.loop c))) _))) => c | _ => .skip
def sleqL (i : Nat) : Option DM := if i = 6 then some (.quiet 9) else none
noncomputable def sleqP (n : Nat) (l1 l2 : AV) (q i : Option AV) : List (Option AV) := [some l1, some l2, none, none, q, none, none, none, none, none, none, none, some (.int .i64 n), i, none, none, none, none, none, none, none, none, none, none, none, none]
set_option maxHeartbeats 4000000 in
theorem sleq_loop {a b o1 o2 n c1 c2 : Nat} {f1 f2 : Nat → Int} {m : List Blk} {B1 B2 : Blk} (hn : n ≤ 256) (h1 : m[a]? = some B1) (h2 : m[b]? = some B2)
    (L1 : ∀ i, i < n → ∀ fs z q, loadB ⟨.struct fs, 3, z, q⟩ B1 (o1 + i * 3) = some (.agg [.int .i64 (f1 (i * 3)), .int .i64 (f1 (i * 3 + 1)), .int .i64 (f1 (i * 3 + 2))]))
    (L2 : ∀ i, i < n → ∀ fs z q, loadB ⟨.struct fs, 3, z, q⟩ B2 (o2 + i * 3) = some (.agg [.int .i64 (f2 (i * 3)), .int .i64 (f2 (i * 3 + 1)), .int .i64 (f2 (i * 3 + 2))])) {Q : Ex → St → Prop}
    (hQ1 : ∀ ts, (∀ j, j < n * 3 → f1 j = f2 j) → Fits (sleqP n (.slice a o1 n c1) (.slice b o2 n c2) none none) ts → Q (.exit 0) ⟨ts, m, []⟩)
    (hQ2 : ∀ ts, (¬ ∀ j, j < n * 3 → f1 j = f2 j) → Fits (sleqP n (.slice a o1 n c1) (.slice b o2 n c2) (some (.bool false)) none) ts → Q .ret ⟨ts, m, []⟩)
    {ts : List AV} (h0 : Fits (sleqP n (.slice a o1 n c1) (.slice b o2 n c2) none (some (.int .i64 0))) ts) :
    Good (loopA (exec Try.T (stOf []) sleqL 300 sleqLoop) 300 ⟨ts, m, []⟩) Q := by
  refine loop_rule (fun x s => ∃ i : Nat, i + x = n ∧ (∀ j, j < i * 3 → f1 j = f2 j) ∧ Fits (sleqP n (.slice a o1 n c1) (.slice b o2 n c2) none (some (.int .i64 i))) s.ts ∧ s.m = m ∧ s.df = []) ?_ 300 n _ (by omega) ⟨0, by omega, by omega, h0, rfl, rfl⟩
  rintro x ⟨ts, m', df⟩ ⟨i, hix, heq, hfit, hm, hd⟩
  simp only at hfit hm hd
  subst hd hm
  obtain ⟨g, rfl⟩ := fits_of hfit 0
  by_cases hi : i < n
  · have hi1 : (i : Int) < n := by omega
    have w1 : IntKind.i64.wrap ((i : Int) + 1) = i + 1 := wrap_i64_in (by omega) (by omega)
    have la : a < m'.length := (List.getElem?_eq_some_iff.1 h1).1
    have lb : b < m'.length := (List.getElem?_eq_some_iff.1 h2).1
    have Na : ∀ h : a < m'.length, m'[a]'h = B1 := fun h => (List.getElem?_eq_some_iff.1 h1).2
    have Nb : ∀ h : b < m'.length, m'[b]'h = B2 := fun h => (List.getElem?_eq_some_iff.1 h2).2
    have l1 := L1 i hi
    have l2 := L2 i hi
    by_cases he : f1 (i * 3) = f2 (i * 3) ∧ f1 (i * 3 + 1) = f2 (i * 3 + 1) ∧ f1 (i * 3 + 2) = f2 (i * 3 + 2)
    · simp [sleqLoop, sleqP, sleqL, Try.f28, hi1, w1, la, lb, Na, Nb, ↓l1, ↓l2, he.1, he.2.1, he.2.2]
      exact ⟨x - 1, by omega, i + 1, by omega, fun j hj => by
        by_cases hj0 : j < i * 3
        · exact heq j hj0
        · have : j = i * 3 ∨ j = i * 3 + 1 ∨ j = i * 3 + 2 := by omega
          rcases this with rfl | rfl | rfl
          · exact he.1
          · exact he.2.1
          · exact he.2.2, by omega⟩
    · have het : (¬ f1 (i * 3) = f2 (i * 3) ∨ ¬ f1 (i * 3 + 1) = f2 (i * 3 + 1) ∨ ¬ f1 (i * 3 + 2) = f2 (i * 3 + 2)) = True := eq_true (by omega)
      simp [sleqLoop, sleqP, sleqL, Try.f28, hi1, la, lb, Na, Nb, ↓l1, ↓l2, het]
      exact hQ2 _ (fun h => he ⟨h _ (by omega), h _ (by omega), h _ (by omega)⟩) (by simp [sleqP])
  · have : i = n := by omega
    subst this
    simp [sleqLoop, sleqP, Try.f28]
    exact hQ1 _ heq (by simp [sleqP])
set_option maxHeartbeats 4000000 in
theorem sleq_ok : SumOk Try.prog 28 sameLS := by
  refine sum_read (L := sleqL) (n := 300) (S := stOf []) drawS Try.T_ok (stOf_ok (by simp)) Try.func28 rfl (by kernel_rfl) (by kernel_rfl) ?_
  intro args env nxt h
  unfold sameLS at h ⊢
  split at h
  · rename_i l1 l2
    split at h
    · rename_i n1 f1 n2 f2 e1 e2
      split at h
      · rename_i hn
        simp only [if_pos hn]
        rcases listE_cases e1 with ⟨rfl, rfl, rfl⟩ | ⟨p, o1, c1, rfl⟩
        · rcases listE_cases e2 with ⟨rfl, rfl, rfl⟩ | ⟨q, o2, c2, rfl⟩
          · refine ⟨_, _, _, .bool (decide (EqL 0 0 (fun _ => 0) fun _ => 0)), laid0 rfl, rfl, rfl, rfl, ?_⟩
            have ht : EqL 0 0 (fun _ => 0) fun _ => 0 := ⟨rfl, fun _ _ => rfl⟩
            simp [Try.f28, ht]
          · obtain ⟨-, -, i2, t2, hq, hr2, -, -⟩ := listE_slice e2
            refine ⟨_, _, _, .bool (decide (EqL 0 n2 (fun _ => 0) f2)), laid1 [.nilslice, .slice 0 o2 n2 c2] rfl (by simp) hq hr2, rfl, rfl, rfl, ?_⟩
            by_cases h0 : n2 = 0
            · subst h0
              have ht : EqL 0 0 (fun _ => 0) f2 := ⟨rfl, fun _ h => absurd h (by omega)⟩
              simp [Try.f28, ht]
            · have ht : ¬ EqL 0 n2 (fun _ => 0) f2 := fun h => h0 h.1.symm
              have h0' : ((0 : Int) == n2) = false := by simp; omega
              have h1' : ((0 : Int) != n2) = true := by simp; omega
              simp [Try.f28, ht, h1']
        · obtain ⟨-, -, i1, t1, hp, hr1, -, -⟩ := listE_slice e1
          rcases listE_cases e2 with ⟨rfl, rfl, rfl⟩ | ⟨q, o2, c2, rfl⟩
          · refine ⟨_, _, _, .bool (decide (EqL n1 0 f1 fun _ => 0)), laid1 [.slice 0 o1 n1 c1, .nilslice] rfl (by simp) hp hr1, rfl, rfl, rfl, ?_⟩
            by_cases h0 : n1 = 0
            · subst h0
              have ht : EqL 0 0 f1 (fun _ => 0) := ⟨rfl, fun _ h => absurd h (by omega)⟩
              simp [Try.f28, ht]
            · have ht : ¬ EqL n1 0 f1 (fun _ => 0) := fun h => h0 h.1
              simp [Try.f28, ht, h0]
          · obtain ⟨θ, m0, a, b, B1, B2, hlaid, hlen, g1, g2, L1, L2⟩ := laid_lists e1 e2
            refine ⟨_, θ, m0, .bool (decide (EqL n1 n2 f1 f2)), hlaid, rfl, rfl, rfl, ?_⟩
            by_cases h0 : n1 = n2
            · subst h0
              simp [-loopA_succ, Try.f28]
              simp only [good_bind, good_unblock]
              refine sleq_loop (c1 := c1) (c2 := c2) hn g1 g2 L1 L2 (fun ts he hfit => ?_) (fun ts he hfit => ?_) ?_
              · obtain ⟨g, rfl⟩ := fits_of hfit 0
                have ht : EqL n1 n1 f1 f2 := ⟨rfl, he⟩
                simp [sleqP, ht]
                omega
              · obtain ⟨g, rfl⟩ := fits_of hfit 0
                have ht : ¬ EqL n1 n1 f1 f2 := fun h => he h.2
                simp [sleqP, ht]
                omega
              · simp [sleqP]
            · have ht : ¬ EqL n1 n2 f1 f2 := fun h => h0 h.1
              have h1' : ((n1 : Int) != n2) = true := by simp; omega
              have h2' : ¬ (n1 : Int) = n2 := by omega
              simp [Try.f28, ht, h1']
              try omega
      · simp [*] at h
    · simp [*] at h
  · simp at h
end Go.X
