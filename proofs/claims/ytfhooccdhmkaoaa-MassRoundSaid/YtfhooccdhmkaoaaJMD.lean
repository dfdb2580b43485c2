/- The reference 04: matrices, by definition; the inverse in package mat. -/
import Derived.Test.YtfhooccdhmkaoaaJMC
namespace Go.X
open Go.Proofs
attribute [local irreducible] Good
attribute [simp] Try.T_4

def mAt (a1 a2 a3 b1 b2 b3 c1 c2 c3 i k : Int) : Int :=
  if i = 0 then (if k = 0 then a1 else if k = 1 then a2 else a3) else if i = 1 then (if k = 0 then b1 else if k = 1 then b2 else b3) else (if k = 0 then c1 else if k = 1 then c2 else c3)
theorem three_of {i : Int} (h0 : 0 ≤ i) (h : i < 3) : i = 0 ∨ i = 1 ∨ i = 2 := by omega
theorem quoI_in {a b : Int} (h : InW a) (hb : b ≠ 0) (ha : a ≠ -K5) : InW (quoI a b) := by
  have hK := K5_pos
  obtain ⟨h1, h2⟩ := quoI_spec a hb
  have h3 : quoI a b = a ∨ (-(if a < 0 then -a else a) ≤ quoI a b ∧ quoI a b ≤ (if a < 0 then -a else a)) := by
    right
    unfold quoI
    by_cases hp : 0 < b
    · obtain ⟨p1, p2⟩ := ediv_le (a := a) hp
      simp only [hp, if_true]
      split
      · rename_i h; have := p2 h; omega
      · rename_i h; have := p1 (by omega); omega
    · obtain ⟨p1, p2⟩ := ediv_le (a := -a) (show 0 < -b by omega)
      simp only [hp, if_false]
      split
      · rename_i h; have := p1 (by omega); omega
      · rename_i h
        by_cases h0 : a = 0
        · have := p1 (by omega); omega
        · have := p2 (by omega); omega
  unfold InW at *
  rcases h3 with h3 | h3
  · omega
  · split at h3 <;> omega
theorem Bd.ne {k : Nat} {a : Int} (h : Bd k a) (hk : k ≤ 510) : a ≠ -K5 := by
  have h1 : (2 : Int) ^ k * 2 ≤ 2 ^ 511 := by
    rw [← Int.pow_succ]; exact pow_le (by omega)
  rw [pow_2_511] at h1
  have hp := pow_2_pos k
  unfold Bd at h
  generalize (2 : Int) ^ k = p at *
  omega
theorem Bd.quo {k : Nat} {a b : Int} (h : Bd k a) (hk : k ≤ 510) (hb : b ≠ 0) : InW (quoI a b) := quoI_in (h.w hk) hb (h.ne hk)

noncomputable def r4atS : List AV → PR
  | [.agg [.int .i64 a1, .int .i64 a2, .int .i64 a3, .int .i64 b1, .int .i64 b2, .int .i64 b3, .int .i64 c1, .int .i64 c2, .int .i64 c3], .int .i64 i, .int .i64 k] => open Classical in if 0 ≤ i ∧ i < 3 ∧ 0 ≤ k ∧ k < 3 then .val (.int .i64 (mAt a1 a2 a3 b1 b2 b3 c1 c2 c3 i k)) else .fail
  | _ => .fail
@[simp] theorem r4atS_val {a1 a2 a3 b1 b2 b3 c1 c2 c3 i k : Int} (h : 0 ≤ i ∧ i < 3 ∧ 0 ≤ k ∧ k < 3) : r4atS [.agg [.int .i64 a1, .int .i64 a2, .int .i64 a3, .int .i64 b1, .int .i64 b2, .int .i64 b3, .int .i64 c1, .int .i64 c2, .int .i64 c3], .int .i64 i, .int .i64 k] = .val (.int .i64 (mAt a1 a2 a3 b1 b2 b3 c1 c2 c3 i k)) := if_pos h
theorem r4at_ok : SumOk Try.prog 161 (pureS r4atS) := by
  refine sum_fn (L := fun _ => none) (n := 1) (S := stOf []) drawS Try.T_ok (stOf_ok (by simp)) Try.func161 rfl (by kernel_rfl) (by kernel_rfl) ?_
    (by intro args v h; unfold r4atS at h; split at h <;> (try split at h) <;> simp at h)
  intro args v h
  unfold r4atS at h
  split at h
  · rename_i a1 a2 a3 b1 b2 b3 c1 c2 c3 i k
    split at h
    · rename_i hc
      obtain ⟨e0, e1, e2, e3⟩ := hc
      cases h
      refine ⟨by simp, by simp, by simp, ?_⟩
      rcases three_of e0 e1 with rfl | rfl | rfl <;> rcases three_of e2 e3 with rfl | rfl | rfl <;> simp [Try.f161, mAt]
    · simp at h
  · simp at h

noncomputable def r4colS : List AV → PR
  | [.agg [.int .i64 a1, .int .i64 a2, .int .i64 a3, .int .i64 b1, .int .i64 b2, .int .i64 b3, .int .i64 c1, .int .i64 c2, .int .i64 c3], .int .i64 k] => open Classical in if 0 ≤ k ∧ k < 3 then .val (.agg [.int .i64 (mAt a1 a2 a3 b1 b2 b3 c1 c2 c3 0 k), .int .i64 (mAt a1 a2 a3 b1 b2 b3 c1 c2 c3 1 k), .int .i64 (mAt a1 a2 a3 b1 b2 b3 c1 c2 c3 2 k)]) else .fail
  | _ => .fail
@[simp] theorem r4colS_val {a1 a2 a3 b1 b2 b3 c1 c2 c3 k : Int} (h : 0 ≤ k ∧ k < 3) : r4colS [.agg [.int .i64 a1, .int .i64 a2, .int .i64 a3, .int .i64 b1, .int .i64 b2, .int .i64 b3, .int .i64 c1, .int .i64 c2, .int .i64 c3], .int .i64 k] = .val (.agg [.int .i64 (mAt a1 a2 a3 b1 b2 b3 c1 c2 c3 0 k), .int .i64 (mAt a1 a2 a3 b1 b2 b3 c1 c2 c3 1 k), .int .i64 (mAt a1 a2 a3 b1 b2 b3 c1 c2 c3 2 k)]) := if_pos h
theorem r4col_ok : SumOk Try.prog 108 (pureS r4colS) := by
  refine sum_fn (L := fun i => if i = 1 then some (.quiet 10) else none) (n := 1) (S := stOf [(161, pureS r4atS)]) drawS Try.T_ok (stOf_ok (by simp [r4at_ok])) Try.func108 rfl (by kernel_rfl) (by kernel_rfl) ?_
    (by intro args v h; unfold r4colS at h; split at h <;> (try split at h) <;> simp at h)
  intro args v h
  unfold r4colS at h
  split at h
  · rename_i a1 a2 a3 b1 b2 b3 c1 c2 c3 k
    split at h
    · rename_i hc
      obtain ⟨e0, e1⟩ := hc
      cases h
      refine ⟨by simp, by simp, by simp, ?_⟩
      simp [Try.f108, e0, e1]
    · simp at h
  · simp at h

noncomputable def r4rowsS : List AV → PR
  | [.agg [.int .i64 a1, .int .i64 a2, .int .i64 a3], .agg [.int .i64 b1, .int .i64 b2, .int .i64 b3], .agg [.int .i64 c1, .int .i64 c2, .int .i64 c3]] => .val (.agg [.int .i64 a1, .int .i64 a2, .int .i64 a3, .int .i64 b1, .int .i64 b2, .int .i64 b3, .int .i64 c1, .int .i64 c2, .int .i64 c3])
  | _ => .fail
@[simp] theorem r4rowsS_val {a1 a2 a3 b1 b2 b3 c1 c2 c3 : Int} : r4rowsS [.agg [.int .i64 a1, .int .i64 a2, .int .i64 a3], .agg [.int .i64 b1, .int .i64 b2, .int .i64 b3], .agg [.int .i64 c1, .int .i64 c2, .int .i64 c3]] = .val (.agg [.int .i64 a1, .int .i64 a2, .int .i64 a3, .int .i64 b1, .int .i64 b2, .int .i64 b3, .int .i64 c1, .int .i64 c2, .int .i64 c3]) := rfl
theorem r4rows_ok : SumOk Try.prog 54 (pureS r4rowsS) := by
  refine sum_fn (L := fun _ => none) (n := 1) (S := stOf []) drawS Try.T_ok (stOf_ok (by simp)) Try.func54 rfl (by kernel_rfl) (by kernel_rfl) ?_
    (by intro args v h; unfold r4rowsS at h; split at h <;> (try split at h) <;> simp at h)
  intro args v h
  unfold r4rowsS at h
  split at h
  · rename_i a1 a2 a3 b1 b2 b3 c1 c2 c3
    cases h
    refine ⟨by simp, by simp, by simp, ?_⟩
    simp [Try.f54]
  · simp at h

noncomputable def r4diagS : List AV → PR
  | [.agg [.int .i64 a, .int .i64 b, .int .i64 c]] => .val (.agg [.int .i64 a, .int .i64 0, .int .i64 0, .int .i64 0, .int .i64 b, .int .i64 0, .int .i64 0, .int .i64 0, .int .i64 c])
  | _ => .fail
@[simp] theorem r4diagS_val {a b c : Int} : r4diagS [.agg [.int .i64 a, .int .i64 b, .int .i64 c]] = .val (.agg [.int .i64 a, .int .i64 0, .int .i64 0, .int .i64 0, .int .i64 b, .int .i64 0, .int .i64 0, .int .i64 0, .int .i64 c]) := rfl
theorem r4diag_ok : SumOk Try.prog 58 (pureS r4diagS) := by
  refine sum_fn (L := fun _ => none) (n := 1) (S := stOf [(54, pureS r4rowsS)]) drawS Try.T_ok (stOf_ok (by simp [r4rows_ok])) Try.func58 rfl (by kernel_rfl) (by kernel_rfl) ?_
    (by intro args v h; unfold r4diagS at h; split at h <;> (try split at h) <;> simp at h)
  intro args v h
  unfold r4diagS at h
  split at h
  · rename_i a b c
    cases h
    refine ⟨by simp, by simp, by simp, ?_⟩
    simp [Try.f58]
  · simp at h

noncomputable def r4turnedS : List AV → PR
  | [.agg [.int .i64 a1, .int .i64 a2, .int .i64 a3, .int .i64 b1, .int .i64 b2, .int .i64 b3, .int .i64 c1, .int .i64 c2, .int .i64 c3]] => .val (.agg [.int .i64 a1, .int .i64 b1, .int .i64 c1, .int .i64 a2, .int .i64 b2, .int .i64 c2, .int .i64 a3, .int .i64 b3, .int .i64 c3])
  | _ => .fail
@[simp] theorem r4turnedS_val {a1 a2 a3 b1 b2 b3 c1 c2 c3 : Int} : r4turnedS [.agg [.int .i64 a1, .int .i64 a2, .int .i64 a3, .int .i64 b1, .int .i64 b2, .int .i64 b3, .int .i64 c1, .int .i64 c2, .int .i64 c3]] = .val (.agg [.int .i64 a1, .int .i64 b1, .int .i64 c1, .int .i64 a2, .int .i64 b2, .int .i64 c2, .int .i64 a3, .int .i64 b3, .int .i64 c3]) := rfl
theorem r4turned_ok : SumOk Try.prog 53 (pureS r4turnedS) := by
  refine sum_fn (L := fun i => if i = 1 then some (.quiet 7) else none) (n := 1) (S := stOf [(108, pureS r4colS), (54, pureS r4rowsS)]) drawS Try.T_ok (stOf_ok (by simp [r4col_ok, r4rows_ok])) Try.func53 rfl (by kernel_rfl) (by kernel_rfl) ?_
    (by intro args v h; unfold r4turnedS at h; split at h <;> (try split at h) <;> simp at h)
  intro args v h
  unfold r4turnedS at h
  split at h
  · rename_i a1 a2 a3 b1 b2 b3 c1 c2 c3
    cases h
    refine ⟨by simp, by simp, by simp, ?_⟩
    simp [Try.f53, mAt]
  · simp at h

noncomputable def r4threeS : List AV → PR
  | [.int .i64 a, .int .i64 b, .int .i64 c] => open Classical in if InI a ∧ InI b ∧ InI c then .val (W (a * b * c)) else .fail
  | _ => .fail
@[simp] theorem r4threeS_val {a b c : Int} (h : InI a ∧ InI b ∧ InI c) : r4threeS [.int .i64 a, .int .i64 b, .int .i64 c] = .val (W (a * b * c)) := if_pos h
noncomputable def r4exactS : List AV → PR
  | [.agg [.int .i64 a1, .int .i64 a2, .int .i64 a3, .int .i64 b1, .int .i64 b2, .int .i64 b3, .int .i64 c1, .int .i64 c2, .int .i64 c3]] => open Classical in if InI a1 ∧ InI a2 ∧ InI a3 ∧ InI b1 ∧ InI b2 ∧ InI b3 ∧ InI c1 ∧ InI c2 ∧ InI c3 then .val (W (detI a1 a2 a3 b1 b2 b3 c1 c2 c3)) else .fail
  | _ => .fail
@[simp] theorem r4exactS_val {a1 a2 a3 b1 b2 b3 c1 c2 c3 : Int} (h : InI a1 ∧ InI a2 ∧ InI a3 ∧ InI b1 ∧ InI b2 ∧ InI b3 ∧ InI c1 ∧ InI c2 ∧ InI c3) : r4exactS [.agg [.int .i64 a1, .int .i64 a2, .int .i64 a3, .int .i64 b1, .int .i64 b2, .int .i64 b3, .int .i64 c1, .int .i64 c2, .int .i64 c3]] = .val (W (detI a1 a2 a3 b1 b2 b3 c1 c2 c3)) := if_pos h
noncomputable def r4detS : List AV → PR
  | [.agg [.int .i64 a1, .int .i64 a2, .int .i64 a3, .int .i64 b1, .int .i64 b2, .int .i64 b3, .int .i64 c1, .int .i64 c2, .int .i64 c3]] => open Classical in if InI a1 ∧ InI a2 ∧ InI a3 ∧ InI b1 ∧ InI b2 ∧ InI b3 ∧ InI c1 ∧ InI c2 ∧ InI c3 then .val (.int .i64 (clampI (detI a1 a2 a3 b1 b2 b3 c1 c2 c3 / 2 ^ 64))) else .fail
  | _ => .fail
@[simp] theorem r4detS_val {a1 a2 a3 b1 b2 b3 c1 c2 c3 : Int} (h : InI a1 ∧ InI a2 ∧ InI a3 ∧ InI b1 ∧ InI b2 ∧ InI b3 ∧ InI c1 ∧ InI c2 ∧ InI c3) : r4detS [.agg [.int .i64 a1, .int .i64 a2, .int .i64 a3, .int .i64 b1, .int .i64 b2, .int .i64 b3, .int .i64 c1, .int .i64 c2, .int .i64 c3]] = .val (.int .i64 (clampI (detI a1 a2 a3 b1 b2 b3 c1 c2 c3 / 2 ^ 64))) := if_pos h
noncomputable def r4withS : List AV → PR
  | [.agg [.int .i64 a1, .int .i64 a2, .int .i64 a3, .int .i64 b1, .int .i64 b2, .int .i64 b3, .int .i64 c1, .int .i64 c2, .int .i64 c3], .int .i64 k, .agg [.int .i64 x, .int .i64 y, .int .i64 z]] => open Classical in if 0 ≤ k ∧ k < 3 then .val (.agg [.int .i64 (if k = 0 then x else a1), .int .i64 (if k = 1 then x else a2), .int .i64 (if k = 2 then x else a3), .int .i64 (if k = 0 then y else b1), .int .i64 (if k = 1 then y else b2), .int .i64 (if k = 2 then y else b3), .int .i64 (if k = 0 then z else c1), .int .i64 (if k = 1 then z else c2), .int .i64 (if k = 2 then z else c3)]) else .fail
  | _ => .fail
@[simp] theorem r4withS_val {a1 a2 a3 b1 b2 b3 c1 c2 c3 k x y z : Int} (h : 0 ≤ k ∧ k < 3) : r4withS [.agg [.int .i64 a1, .int .i64 a2, .int .i64 a3, .int .i64 b1, .int .i64 b2, .int .i64 b3, .int .i64 c1, .int .i64 c2, .int .i64 c3], .int .i64 k, .agg [.int .i64 x, .int .i64 y, .int .i64 z]] = .val (.agg [.int .i64 (if k = 0 then x else a1), .int .i64 (if k = 1 then x else a2), .int .i64 (if k = 2 then x else a3), .int .i64 (if k = 0 then y else b1), .int .i64 (if k = 1 then y else b2), .int .i64 (if k = 2 then y else b3), .int .i64 (if k = 0 then z else c1), .int .i64 (if k = 1 then z else c2), .int .i64 (if k = 2 then z else c3)]) := if_pos h
noncomputable def r4overS : List AV → PR
  | [.arr .u64 8 f, .int .i64 n, .arr .u64 8 g] => open Classical in if R8 f ∧ R8 g ∧ 0 ≤ n ∧ n < 512 ∧ InW (sval f * 2 ^ n.toNat) ∧ sval g ≠ 0 ∧ InW (quoI (sval f * 2 ^ n.toNat) (sval g)) then .val (.int .i64 (clampI (quoI (sval f * 2 ^ n.toNat) (sval g)))) else .fail
  | _ => .fail
@[simp] theorem r4overS_val {f g : Nat → Int} {n : Int} (h : R8 f ∧ R8 g ∧ 0 ≤ n ∧ n < 512 ∧ InW (sval f * 2 ^ n.toNat) ∧ sval g ≠ 0 ∧ InW (quoI (sval f * 2 ^ n.toNat) (sval g))) : r4overS [.arr .u64 8 f, .int .i64 n, .arr .u64 8 g] = .val (.int .i64 (clampI (quoI (sval f * 2 ^ n.toNat) (sval g)))) := if_pos h
noncomputable def r4solveS : List AV → PR
  | [.agg [.int .i64 a1, .int .i64 a2, .int .i64 a3, .int .i64 b1, .int .i64 b2, .int .i64 b3, .int .i64 c1, .int .i64 c2, .int .i64 c3], .agg [.int .i64 x, .int .i64 y, .int .i64 z]] => open Classical in if InI a1 ∧ InI a2 ∧ InI a3 ∧ InI b1 ∧ InI b2 ∧ InI b3 ∧ InI c1 ∧ InI c2 ∧ InI c3 ∧ InI x ∧ InI y ∧ InI z then .val (if detI a1 a2 a3 b1 b2 b3 c1 c2 c3 = 0 then .tup [.agg [.int .i64 0, .int .i64 0, .int .i64 0], .bool false] else .tup [.agg [.int .i64 (clampI (quoI (detI x a2 a3 y b2 b3 z c2 c3 * 2 ^ 32) (detI a1 a2 a3 b1 b2 b3 c1 c2 c3))), .int .i64 (clampI (quoI (detI a1 x a3 b1 y b3 c1 z c3 * 2 ^ 32) (detI a1 a2 a3 b1 b2 b3 c1 c2 c3))), .int .i64 (clampI (quoI (detI a1 a2 x b1 b2 y c1 c2 z * 2 ^ 32) (detI a1 a2 a3 b1 b2 b3 c1 c2 c3)))], .bool true]) else .fail
  | _ => .fail
@[simp] theorem r4solveS_val {a1 a2 a3 b1 b2 b3 c1 c2 c3 x y z : Int} (h : InI a1 ∧ InI a2 ∧ InI a3 ∧ InI b1 ∧ InI b2 ∧ InI b3 ∧ InI c1 ∧ InI c2 ∧ InI c3 ∧ InI x ∧ InI y ∧ InI z) : r4solveS [.agg [.int .i64 a1, .int .i64 a2, .int .i64 a3, .int .i64 b1, .int .i64 b2, .int .i64 b3, .int .i64 c1, .int .i64 c2, .int .i64 c3], .agg [.int .i64 x, .int .i64 y, .int .i64 z]] = .val (if detI a1 a2 a3 b1 b2 b3 c1 c2 c3 = 0 then .tup [.agg [.int .i64 0, .int .i64 0, .int .i64 0], .bool false] else .tup [.agg [.int .i64 (clampI (quoI (detI x a2 a3 y b2 b3 z c2 c3 * 2 ^ 32) (detI a1 a2 a3 b1 b2 b3 c1 c2 c3))), .int .i64 (clampI (quoI (detI a1 x a3 b1 y b3 c1 z c3 * 2 ^ 32) (detI a1 a2 a3 b1 b2 b3 c1 c2 c3))), .int .i64 (clampI (quoI (detI a1 a2 x b1 b2 y c1 c2 z * 2 ^ 32) (detI a1 a2 a3 b1 b2 b3 c1 c2 c3)))], .bool true]) := if_pos h
end Go.X
