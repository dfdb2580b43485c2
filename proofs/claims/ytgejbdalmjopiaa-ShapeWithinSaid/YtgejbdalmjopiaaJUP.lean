/- Are two shapes the same? -/
import Derived.Test.YtgejbdalmjopiaaJUL
import Derived.Test.YtgejbdalmjopiaaJUN0
namespace Go.X
open Go.Proofs
attribute [local irreducible] Good

def ShEq (kd r x y z kd' r' x' y' z' : Int) (n n' : Nat) (f f' : Nat → Int) : Prop := kd = kd' ∧ r = r' ∧ (x = x' ∧ y = y' ∧ z = z') ∧ EqL n n' f f'
noncomputable instance (kd r x y z kd' r' x' y' z' : Int) (n n' : Nat) (f f' : Nat → Int) : Decidable (ShEq kd r x y z kd' r' x' y' z' n n' f f') := Classical.propDecidable _
/-- two shapes among the arguments: whether they are the same -/
noncomputable def shSameS : Sum := fun args env _ => match args with
  | [.agg [.int .i64 kd, .int .i64 r, .int .i64 x, .int .i64 y, .int .i64 z, l1], .agg [.int .i64 kd', .int .i64 r', .int .i64 x', .int .i64 y', .int .i64 z', l2]] => match listE env l1, listE env l2 with
    | some (n1, f1), some (n2, f2) => if n1 ≤ 256 then .val (.bool (decide (ShEq kd r x y z kd' r' x' y' z' n1 n2 f1 f2))) [] [] else .fail
    | _, _ => .fail
  | _ => .fail
set_option maxHeartbeats 40000000 in
theorem r9same_ok : SumOk Try.prog 16 shSameS := by
  refine sum_read (L := fun _ => none) (n := 1) (S := stOf [(17, sameLS)]) drawS Try.T_ok (stOf_ok (by simp [r9sv_ok])) Try.func16 rfl (by kernel_rfl) (by kernel_rfl) ?_
  intro args env nxt h
  unfold shSameS at h ⊢
  split at h
  · rename_i kd r x y z l1 kd' r' x' y' z' l2
    split at h
    · rename_i n1 f1 n2 f2 e1 e2
      split at h
      · rename_i hn
        simp only [if_pos hn]
        rcases listE_cases e1 with ⟨rfl, rfl, rfl⟩ | ⟨p1', o1, c1, rfl⟩
        · rcases listE_cases e2 with ⟨rfl, rfl, rfl⟩ | ⟨p2', o2, c2, rfl⟩
          · refine ⟨_, _, _, .bool (decide (ShEq kd r x y z kd' r' x' y' z' 0 0 (fun _ => 0) (fun _ => 0))), laid0 (by simp), rfl, by first | rfl | (split <;> rfl), by first | rfl | (split <;> rfl), ?_⟩
            by_cases c1 : kd = kd'
            · subst c1
              by_cases c2 : r = r'
              · subst c2
                by_cases c3 : x = x' ∧ y = y' ∧ z = z'
                · obtain ⟨rfl, rfl, rfl⟩ := c3
                  have q : ShEq kd r x y z kd r x y z 0 0 (fun _ => 0) (fun _ => 0) ↔ EqL 0 0 (fun _ => 0) (fun _ => 0) := ⟨fun h => h.2.2.2, fun h => ⟨rfl, rfl, ⟨rfl, rfl, rfl⟩, h⟩⟩
                  simp (maxSteps := 10000000) [Try.f16, sameLS, hn, q]
                · have q : ¬ ShEq kd r x y z kd r x' y' z' 0 0 (fun _ => 0) (fun _ => 0) := fun h => c3 h.2.2.1
                  have c3' : (x == x' && (y == y' && z == z')) = false := by simpa using fun a b c => c3 ⟨a, b, c⟩
                  have c4 : (x = x' ∧ y = y' ∧ z = z') = False := eq_false c3
                  simp (maxSteps := 10000000) [Try.f16, q, c3']
              · have q : ¬ ShEq kd r x y z kd r' x' y' z' 0 0 (fun _ => 0) (fun _ => 0) := fun h => c2 h.2.1
                have c2' : (r == r') = false := by simpa using c2
                simp (maxSteps := 10000000) [Try.f16, q, c2']
            · have q : ¬ ShEq kd r x y z kd' r' x' y' z' 0 0 (fun _ => 0) (fun _ => 0) := fun h => c1 h.1
              have c1' : (kd == kd') = false := by simpa using c1
              simp (maxSteps := 10000000) [Try.f16, q, c1']
          · obtain ⟨-, hnc2, i2, t2, hq, hr2', ⟨oo2, FF2, hrow2, hf2⟩, -⟩ := listE_slice e2
            have hE2' := listE_own hrow2 hf2 hnc2
            have hE2e := listE_ownE hrow2 hf2 hnc2
            refine ⟨_, _, _, .bool (decide (ShEq kd r x y z kd' r' x' y' z' 0 n2 (fun _ => 0) f2)), laid1 [.agg [.int .i64 kd, .int .i64 r, .int .i64 x, .int .i64 y, .int .i64 z, .nilslice], .agg [.int .i64 kd', .int .i64 r', .int .i64 x', .int .i64 y', .int .i64 z', .slice 0 o2 n2 c2]] rfl (by simp) hq hr2', rfl, by first | rfl | (split <;> rfl), by first | rfl | (split <;> rfl), ?_⟩
            by_cases c1 : kd = kd'
            · subst c1
              by_cases c2 : r = r'
              · subst c2
                by_cases c3 : x = x' ∧ y = y' ∧ z = z'
                · obtain ⟨rfl, rfl, rfl⟩ := c3
                  have q : ShEq kd r x y z kd r x y z 0 n2 (fun _ => 0) f2 ↔ EqL 0 n2 (fun _ => 0) f2 := ⟨fun h => h.2.2.2, fun h => ⟨rfl, rfl, ⟨rfl, rfl, rfl⟩, h⟩⟩
                  simp (maxSteps := 10000000) [Try.f16, sameLS, hE2', hn, q]
                · have q : ¬ ShEq kd r x y z kd r x' y' z' 0 n2 (fun _ => 0) f2 := fun h => c3 h.2.2.1
                  have c3' : (x == x' && (y == y' && z == z')) = false := by simpa using fun a b c => c3 ⟨a, b, c⟩
                  have c4 : (x = x' ∧ y = y' ∧ z = z') = False := eq_false c3
                  simp (maxSteps := 10000000) [Try.f16, q, c3']
              · have q : ¬ ShEq kd r x y z kd r' x' y' z' 0 n2 (fun _ => 0) f2 := fun h => c2 h.2.1
                have c2' : (r == r') = false := by simpa using c2
                simp (maxSteps := 10000000) [Try.f16, q, c2']
            · have q : ¬ ShEq kd r x y z kd' r' x' y' z' 0 n2 (fun _ => 0) f2 := fun h => c1 h.1
              have c1' : (kd == kd') = false := by simpa using c1
              simp (maxSteps := 10000000) [Try.f16, q, c1']
        · obtain ⟨-, hnc1, i1, t1, hp, hr1', ⟨oo1, FF1, hrow1, hf1⟩, -⟩ := listE_slice e1
          rcases listE_cases e2 with ⟨rfl, rfl, rfl⟩ | ⟨p2', o2, c2, rfl⟩
          · have hE1' := listE_own hrow1 hf1 hnc1
            have hE1e := listE_ownE hrow1 hf1 hnc1
            refine ⟨_, _, _, .bool (decide (ShEq kd r x y z kd' r' x' y' z' n1 0 f1 (fun _ => 0))), laid1 [.agg [.int .i64 kd, .int .i64 r, .int .i64 x, .int .i64 y, .int .i64 z, .slice 0 o1 n1 c1], .agg [.int .i64 kd', .int .i64 r', .int .i64 x', .int .i64 y', .int .i64 z', .nilslice]] rfl (by simp) hp hr1', rfl, by first | rfl | (split <;> rfl), by first | rfl | (split <;> rfl), ?_⟩
            by_cases c1 : kd = kd'
            · subst c1
              by_cases c2 : r = r'
              · subst c2
                by_cases c3 : x = x' ∧ y = y' ∧ z = z'
                · obtain ⟨rfl, rfl, rfl⟩ := c3
                  have q : ShEq kd r x y z kd r x y z n1 0 f1 (fun _ => 0) ↔ EqL n1 0 f1 (fun _ => 0) := ⟨fun h => h.2.2.2, fun h => ⟨rfl, rfl, ⟨rfl, rfl, rfl⟩, h⟩⟩
                  simp (maxSteps := 10000000) [Try.f16, sameLS, hE1', hn, q]
                · have q : ¬ ShEq kd r x y z kd r x' y' z' n1 0 f1 (fun _ => 0) := fun h => c3 h.2.2.1
                  have c3' : (x == x' && (y == y' && z == z')) = false := by simpa using fun a b c => c3 ⟨a, b, c⟩
                  have c4 : (x = x' ∧ y = y' ∧ z = z') = False := eq_false c3
                  simp (maxSteps := 10000000) [Try.f16, q, c3']
              · have q : ¬ ShEq kd r x y z kd r' x' y' z' n1 0 f1 (fun _ => 0) := fun h => c2 h.2.1
                have c2' : (r == r') = false := by simpa using c2
                simp (maxSteps := 10000000) [Try.f16, q, c2']
            · have q : ¬ ShEq kd r x y z kd' r' x' y' z' n1 0 f1 (fun _ => 0) := fun h => c1 h.1
              have c1' : (kd == kd') = false := by simpa using c1
              simp (maxSteps := 10000000) [Try.f16, q, c1']
          · obtain ⟨-, hnc2, i2, t2, hq, hr2', ⟨oo2, FF2, hrow2, hf2⟩, -⟩ := listE_slice e2
            by_cases hpq : p1' = p2'
            · subst hpq
              rw [hp] at hq
              cases hq
              have hE1' := listE_own hrow1 hf1 hnc1
              have hE2' := listE_own hrow2 hf2 hnc2
              have hE1e := listE_ownE hrow1 hf1 hnc1
              have hE2e := listE_ownE hrow2 hf2 hnc2
              refine ⟨_, _, _, .bool (decide (ShEq kd r x y z kd' r' x' y' z' n1 n2 f1 f2)), laid1 [.agg [.int .i64 kd, .int .i64 r, .int .i64 x, .int .i64 y, .int .i64 z, .slice 0 o1 n1 c1], .agg [.int .i64 kd', .int .i64 r', .int .i64 x', .int .i64 y', .int .i64 z', .slice 0 o2 n2 c2]] rfl (by simp) hp hr1', rfl, by first | rfl | (split <;> rfl), by first | rfl | (split <;> rfl), ?_⟩
              by_cases c1 : kd = kd'
              · subst c1
                by_cases c2 : r = r'
                · subst c2
                  by_cases c3 : x = x' ∧ y = y' ∧ z = z'
                  · obtain ⟨rfl, rfl, rfl⟩ := c3
                    have q : ShEq kd r x y z kd r x y z n1 n2 f1 f2 ↔ EqL n1 n2 f1 f2 := ⟨fun h => h.2.2.2, fun h => ⟨rfl, rfl, ⟨rfl, rfl, rfl⟩, h⟩⟩
                    simp (maxSteps := 10000000) [Try.f16, sameLS, hE1', hE2', hn, q]
                  · have q : ¬ ShEq kd r x y z kd r x' y' z' n1 n2 f1 f2 := fun h => c3 h.2.2.1
                    have c3' : (x == x' && (y == y' && z == z')) = false := by simpa using fun a b c => c3 ⟨a, b, c⟩
                    have c4 : (x = x' ∧ y = y' ∧ z = z') = False := eq_false c3
                    simp (maxSteps := 10000000) [Try.f16, q, c3']
                · have q : ¬ ShEq kd r x y z kd r' x' y' z' n1 n2 f1 f2 := fun h => c2 h.2.1
                  have c2' : (r == r') = false := by simpa using c2
                  simp (maxSteps := 10000000) [Try.f16, q, c2']
              · have q : ¬ ShEq kd r x y z kd' r' x' y' z' n1 n2 f1 f2 := fun h => c1 h.1
                have c1' : (kd == kd') = false := by simpa using c1
                simp (maxSteps := 10000000) [Try.f16, q, c1']
            · have hE1' := listE_own hrow1 hf1 hnc1
              have hE2' : ∀ (ts : List AV) (b : Blk) (x : List Blk) (df : List (FuncId × List AV)), listE (St.mem ⟨ts, b :: (⟨i2, t2⟩ : Blk) :: x, df⟩) (.slice 1 o2 n2 c2) = some (n2, f2) := fun _ _ _ _ => listE_at rfl hrow2 hf2 hnc2
              have hE1e := listE_ownE hrow1 hf1 hnc1
              have hE2e : ∀ (ts : List AV) (b : Blk) (x : List Blk) (df : List (FuncId × List AV)) (l : List Nat), 1 ∈ l → listE (envOf (St.mem ⟨ts, b :: (⟨i2, t2⟩ : Blk) :: x, df⟩) l) (.slice 1 o2 n2 c2) = some (n2, f2) := fun _ _ _ _ l h => listE_at (by rw [envOf_app, if_pos h]; rfl) hrow2 hf2 hnc2
              refine ⟨_, _, _, .bool (decide (ShEq kd r x y z kd' r' x' y' z' n1 n2 f1 f2)), laid2 [.agg [.int .i64 kd, .int .i64 r, .int .i64 x, .int .i64 y, .int .i64 z, .slice 0 o1 n1 c1], .agg [.int .i64 kd', .int .i64 r', .int .i64 x', .int .i64 y', .int .i64 z', .slice 1 o2 n2 c2]] rfl (by simp) hp hq hpq hr1' hr2', rfl, by first | rfl | (split <;> rfl), by first | rfl | (split <;> rfl), ?_⟩
              by_cases c1 : kd = kd'
              · subst c1
                by_cases c2 : r = r'
                · subst c2
                  by_cases c3 : x = x' ∧ y = y' ∧ z = z'
                  · obtain ⟨rfl, rfl, rfl⟩ := c3
                    have q : ShEq kd r x y z kd r x y z n1 n2 f1 f2 ↔ EqL n1 n2 f1 f2 := ⟨fun h => h.2.2.2, fun h => ⟨rfl, rfl, ⟨rfl, rfl, rfl⟩, h⟩⟩
                    simp (maxSteps := 10000000) [Try.f16, sameLS, hE1', hE2', hn, q]; try exact two_same
                  · have q : ¬ ShEq kd r x y z kd r x' y' z' n1 n2 f1 f2 := fun h => c3 h.2.2.1
                    have c3' : (x == x' && (y == y' && z == z')) = false := by simpa using fun a b c => c3 ⟨a, b, c⟩
                    have c4 : (x = x' ∧ y = y' ∧ z = z') = False := eq_false c3
                    simp (maxSteps := 10000000) [Try.f16, q, c3']; try exact two_same
                · have q : ¬ ShEq kd r x y z kd r' x' y' z' n1 n2 f1 f2 := fun h => c2 h.2.1
                  have c2' : (r == r') = false := by simpa using c2
                  simp (maxSteps := 10000000) [Try.f16, q, c2']; try exact two_same
              · have q : ¬ ShEq kd r x y z kd' r' x' y' z' n1 n2 f1 f2 := fun h => c1 h.1
                have c1' : (kd == kd') = false := by simpa using c1
                simp (maxSteps := 10000000) [Try.f16, q, c1']; try exact two_same
      · simp [*] at h
    · simp [*] at h
  · simp at h
set_option maxHeartbeats 40000000 in
theorem shSame_ok : SumOk Try.prog 15 shSameS := by
  refine sum_read (L := fun _ => none) (n := 1) (S := stOf [(28, sameLS)]) drawS Try.T_ok (stOf_ok (by simp [sleq_ok])) Try.func15 rfl (by kernel_rfl) (by kernel_rfl) ?_
  intro args env nxt h
  unfold shSameS at h ⊢
  split at h
  · rename_i kd r x y z l1 kd' r' x' y' z' l2
    split at h
    · rename_i n1 f1 n2 f2 e1 e2
      split at h
      · rename_i hn
        simp only [if_pos hn]
        rcases listE_cases e1 with ⟨rfl, rfl, rfl⟩ | ⟨p1', o1, c1, rfl⟩
        · rcases listE_cases e2 with ⟨rfl, rfl, rfl⟩ | ⟨p2', o2, c2, rfl⟩
          · refine ⟨_, _, _, .bool (decide (ShEq kd r x y z kd' r' x' y' z' 0 0 (fun _ => 0) (fun _ => 0))), laid0 (by simp), rfl, by first | rfl | (split <;> rfl), by first | rfl | (split <;> rfl), ?_⟩
            by_cases c1 : kd = kd'
            · subst c1
              by_cases c2 : r = r'
              · subst c2
                by_cases c3 : x = x' ∧ y = y' ∧ z = z'
                · obtain ⟨rfl, rfl, rfl⟩ := c3
                  have q : ShEq kd r x y z kd r x y z 0 0 (fun _ => 0) (fun _ => 0) ↔ EqL 0 0 (fun _ => 0) (fun _ => 0) := ⟨fun h => h.2.2.2, fun h => ⟨rfl, rfl, ⟨rfl, rfl, rfl⟩, h⟩⟩
                  simp (maxSteps := 10000000) [Try.f15, sameLS, hn, q]
                · have q : ¬ ShEq kd r x y z kd r x' y' z' 0 0 (fun _ => 0) (fun _ => 0) := fun h => c3 h.2.2.1
                  have c3' : (x == x' && (y == y' && z == z')) = false := by simpa using fun a b c => c3 ⟨a, b, c⟩
                  have c4 : (x = x' ∧ y = y' ∧ z = z') = False := eq_false c3
                  simp (maxSteps := 10000000) [Try.f15, q, c3']
              · have q : ¬ ShEq kd r x y z kd r' x' y' z' 0 0 (fun _ => 0) (fun _ => 0) := fun h => c2 h.2.1
                have c2' : (r == r') = false := by simpa using c2
                simp (maxSteps := 10000000) [Try.f15, q, c2']
            · have q : ¬ ShEq kd r x y z kd' r' x' y' z' 0 0 (fun _ => 0) (fun _ => 0) := fun h => c1 h.1
              have c1' : (kd == kd') = false := by simpa using c1
              simp (maxSteps := 10000000) [Try.f15, q, c1']
          · obtain ⟨-, hnc2, i2, t2, hq, hr2', ⟨oo2, FF2, hrow2, hf2⟩, -⟩ := listE_slice e2
            have hE2' := listE_own hrow2 hf2 hnc2
            have hE2e := listE_ownE hrow2 hf2 hnc2
            refine ⟨_, _, _, .bool (decide (ShEq kd r x y z kd' r' x' y' z' 0 n2 (fun _ => 0) f2)), laid1 [.agg [.int .i64 kd, .int .i64 r, .int .i64 x, .int .i64 y, .int .i64 z, .nilslice], .agg [.int .i64 kd', .int .i64 r', .int .i64 x', .int .i64 y', .int .i64 z', .slice 0 o2 n2 c2]] rfl (by simp) hq hr2', rfl, by first | rfl | (split <;> rfl), by first | rfl | (split <;> rfl), ?_⟩
            by_cases c1 : kd = kd'
            · subst c1
              by_cases c2 : r = r'
              · subst c2
                by_cases c3 : x = x' ∧ y = y' ∧ z = z'
                · obtain ⟨rfl, rfl, rfl⟩ := c3
                  have q : ShEq kd r x y z kd r x y z 0 n2 (fun _ => 0) f2 ↔ EqL 0 n2 (fun _ => 0) f2 := ⟨fun h => h.2.2.2, fun h => ⟨rfl, rfl, ⟨rfl, rfl, rfl⟩, h⟩⟩
                  simp (maxSteps := 10000000) [Try.f15, sameLS, hE2', hn, q]
                · have q : ¬ ShEq kd r x y z kd r x' y' z' 0 n2 (fun _ => 0) f2 := fun h => c3 h.2.2.1
                  have c3' : (x == x' && (y == y' && z == z')) = false := by simpa using fun a b c => c3 ⟨a, b, c⟩
                  have c4 : (x = x' ∧ y = y' ∧ z = z') = False := eq_false c3
                  simp (maxSteps := 10000000) [Try.f15, q, c3']
              · have q : ¬ ShEq kd r x y z kd r' x' y' z' 0 n2 (fun _ => 0) f2 := fun h => c2 h.2.1
                have c2' : (r == r') = false := by simpa using c2
                simp (maxSteps := 10000000) [Try.f15, q, c2']
            · have q : ¬ ShEq kd r x y z kd' r' x' y' z' 0 n2 (fun _ => 0) f2 := fun h => c1 h.1
              have c1' : (kd == kd') = false := by simpa using c1
              simp (maxSteps := 10000000) [Try.f15, q, c1']
        · obtain ⟨-, hnc1, i1, t1, hp, hr1', ⟨oo1, FF1, hrow1, hf1⟩, -⟩ := listE_slice e1
          rcases listE_cases e2 with ⟨rfl, rfl, rfl⟩ | ⟨p2', o2, c2, rfl⟩
          · have hE1' := listE_own hrow1 hf1 hnc1
            have hE1e := listE_ownE hrow1 hf1 hnc1
            refine ⟨_, _, _, .bool (decide (ShEq kd r x y z kd' r' x' y' z' n1 0 f1 (fun _ => 0))), laid1 [.agg [.int .i64 kd, .int .i64 r, .int .i64 x, .int .i64 y, .int .i64 z, .slice 0 o1 n1 c1], .agg [.int .i64 kd', .int .i64 r', .int .i64 x', .int .i64 y', .int .i64 z', .nilslice]] rfl (by simp) hp hr1', rfl, by first | rfl | (split <;> rfl), by first | rfl | (split <;> rfl), ?_⟩
            by_cases c1 : kd = kd'
            · subst c1
              by_cases c2 : r = r'
              · subst c2
                by_cases c3 : x = x' ∧ y = y' ∧ z = z'
                · obtain ⟨rfl, rfl, rfl⟩ := c3
                  have q : ShEq kd r x y z kd r x y z n1 0 f1 (fun _ => 0) ↔ EqL n1 0 f1 (fun _ => 0) := ⟨fun h => h.2.2.2, fun h => ⟨rfl, rfl, ⟨rfl, rfl, rfl⟩, h⟩⟩
                  simp (maxSteps := 10000000) [Try.f15, sameLS, hE1', hn, q]
                · have q : ¬ ShEq kd r x y z kd r x' y' z' n1 0 f1 (fun _ => 0) := fun h => c3 h.2.2.1
                  have c3' : (x == x' && (y == y' && z == z')) = false := by simpa using fun a b c => c3 ⟨a, b, c⟩
                  have c4 : (x = x' ∧ y = y' ∧ z = z') = False := eq_false c3
                  simp (maxSteps := 10000000) [Try.f15, q, c3']
              · have q : ¬ ShEq kd r x y z kd r' x' y' z' n1 0 f1 (fun _ => 0) := fun h => c2 h.2.1
                have c2' : (r == r') = false := by simpa using c2
                simp (maxSteps := 10000000) [Try.f15, q, c2']
            · have q : ¬ ShEq kd r x y z kd' r' x' y' z' n1 0 f1 (fun _ => 0) := fun h => c1 h.1
              have c1' : (kd == kd') = false := by simpa using c1
              simp (maxSteps := 10000000) [Try.f15, q, c1']
          · obtain ⟨-, hnc2, i2, t2, hq, hr2', ⟨oo2, FF2, hrow2, hf2⟩, -⟩ := listE_slice e2
            by_cases hpq : p1' = p2'
            · subst hpq
              rw [hp] at hq
              cases hq
              have hE1' := listE_own hrow1 hf1 hnc1
              have hE2' := listE_own hrow2 hf2 hnc2
              have hE1e := listE_ownE hrow1 hf1 hnc1
              have hE2e := listE_ownE hrow2 hf2 hnc2
              refine ⟨_, _, _, .bool (decide (ShEq kd r x y z kd' r' x' y' z' n1 n2 f1 f2)), laid1 [.agg [.int .i64 kd, .int .i64 r, .int .i64 x, .int .i64 y, .int .i64 z, .slice 0 o1 n1 c1], .agg [.int .i64 kd', .int .i64 r', .int .i64 x', .int .i64 y', .int .i64 z', .slice 0 o2 n2 c2]] rfl (by simp) hp hr1', rfl, by first | rfl | (split <;> rfl), by first | rfl | (split <;> rfl), ?_⟩
              by_cases c1 : kd = kd'
              · subst c1
                by_cases c2 : r = r'
                · subst c2
                  by_cases c3 : x = x' ∧ y = y' ∧ z = z'
                  · obtain ⟨rfl, rfl, rfl⟩ := c3
                    have q : ShEq kd r x y z kd r x y z n1 n2 f1 f2 ↔ EqL n1 n2 f1 f2 := ⟨fun h => h.2.2.2, fun h => ⟨rfl, rfl, ⟨rfl, rfl, rfl⟩, h⟩⟩
                    simp (maxSteps := 10000000) [Try.f15, sameLS, hE1', hE2', hn, q]
                  · have q : ¬ ShEq kd r x y z kd r x' y' z' n1 n2 f1 f2 := fun h => c3 h.2.2.1
                    have c3' : (x == x' && (y == y' && z == z')) = false := by simpa using fun a b c => c3 ⟨a, b, c⟩
                    have c4 : (x = x' ∧ y = y' ∧ z = z') = False := eq_false c3
                    simp (maxSteps := 10000000) [Try.f15, q, c3']
                · have q : ¬ ShEq kd r x y z kd r' x' y' z' n1 n2 f1 f2 := fun h => c2 h.2.1
                  have c2' : (r == r') = false := by simpa using c2
                  simp (maxSteps := 10000000) [Try.f15, q, c2']
              · have q : ¬ ShEq kd r x y z kd' r' x' y' z' n1 n2 f1 f2 := fun h => c1 h.1
                have c1' : (kd == kd') = false := by simpa using c1
                simp (maxSteps := 10000000) [Try.f15, q, c1']
            · have hE1' := listE_own hrow1 hf1 hnc1
              have hE2' : ∀ (ts : List AV) (b : Blk) (x : List Blk) (df : List (FuncId × List AV)), listE (St.mem ⟨ts, b :: (⟨i2, t2⟩ : Blk) :: x, df⟩) (.slice 1 o2 n2 c2) = some (n2, f2) := fun _ _ _ _ => listE_at rfl hrow2 hf2 hnc2
              have hE1e := listE_ownE hrow1 hf1 hnc1
              have hE2e : ∀ (ts : List AV) (b : Blk) (x : List Blk) (df : List (FuncId × List AV)) (l : List Nat), 1 ∈ l → listE (envOf (St.mem ⟨ts, b :: (⟨i2, t2⟩ : Blk) :: x, df⟩) l) (.slice 1 o2 n2 c2) = some (n2, f2) := fun _ _ _ _ l h => listE_at (by rw [envOf_app, if_pos h]; rfl) hrow2 hf2 hnc2
              refine ⟨_, _, _, .bool (decide (ShEq kd r x y z kd' r' x' y' z' n1 n2 f1 f2)), laid2 [.agg [.int .i64 kd, .int .i64 r, .int .i64 x, .int .i64 y, .int .i64 z, .slice 0 o1 n1 c1], .agg [.int .i64 kd', .int .i64 r', .int .i64 x', .int .i64 y', .int .i64 z', .slice 1 o2 n2 c2]] rfl (by simp) hp hq hpq hr1' hr2', rfl, by first | rfl | (split <;> rfl), by first | rfl | (split <;> rfl), ?_⟩
              by_cases c1 : kd = kd'
              · subst c1
                by_cases c2 : r = r'
                · subst c2
                  by_cases c3 : x = x' ∧ y = y' ∧ z = z'
                  · obtain ⟨rfl, rfl, rfl⟩ := c3
                    have q : ShEq kd r x y z kd r x y z n1 n2 f1 f2 ↔ EqL n1 n2 f1 f2 := ⟨fun h => h.2.2.2, fun h => ⟨rfl, rfl, ⟨rfl, rfl, rfl⟩, h⟩⟩
                    simp (maxSteps := 10000000) [Try.f15, sameLS, hE1', hE2', hn, q]; try exact two_same
                  · have q : ¬ ShEq kd r x y z kd r x' y' z' n1 n2 f1 f2 := fun h => c3 h.2.2.1
                    have c3' : (x == x' && (y == y' && z == z')) = false := by simpa using fun a b c => c3 ⟨a, b, c⟩
                    have c4 : (x = x' ∧ y = y' ∧ z = z') = False := eq_false c3
                    simp (maxSteps := 10000000) [Try.f15, q, c3']; try exact two_same
                · have q : ¬ ShEq kd r x y z kd r' x' y' z' n1 n2 f1 f2 := fun h => c2 h.2.1
                  have c2' : (r == r') = false := by simpa using c2
                  simp (maxSteps := 10000000) [Try.f15, q, c2']; try exact two_same
              · have q : ¬ ShEq kd r x y z kd' r' x' y' z' n1 n2 f1 f2 := fun h => c1 h.1
                have c1' : (kd == kd') = false := by simpa using c1
                simp (maxSteps := 10000000) [Try.f15, q, c1']; try exact two_same
      · simp [*] at h
    · simp [*] at h
  · simp at h
end Go.X
