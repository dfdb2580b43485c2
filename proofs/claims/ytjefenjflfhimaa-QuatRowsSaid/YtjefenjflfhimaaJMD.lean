/- The reference 04: matrices, by definition; the inverse in package mat. -/
import Derived.Test.YtjefenjflfhimaaJMC
namespace Go.X
open Go.Proofs
attribute [local irreducible] Good
attribute [simp] Try.T_4

def mAt (a1 a2 a3 b1 b2 b3 c1 c2 c3 i k : Int) : Int :=
  if i = 0 then (if k = 0 then a1 else if k = 1 then a2 else a3) else if i = 1 then (if k = 0 then b1 else if k = 1 then b2 else b3) else (if k = 0 then c1 else if k = 1 then c2 else c3)
theorem three_of {i : Int} (h0 : 0 ≤ i) (h : i < 3) : i = 0 ∨ i = 1 ∨ i = 2 := by omega
theorem quoI_in {a b : Int} (h : InW a) (hb : b ≠ 0) (ha : a ≠ -K5) : InW (quoI a b) := by
  have hK := K5_pos
  obtain ⟨h1, h2⟩ := quoI_spec a hb
  have h3 : quoI a b = a ∨ (-(if a < 0 then -a else a) ≤ quoI a b ∧ quoI a b ≤ (if a < 0 then -a else a)) := by
    right
    unfold quoI
    by_cases hp : 0 < b
    · obtain ⟨p1, p2⟩ := ediv_le (a := a) hp
      simp only [hp, if_true]
      split
      · rename_i h; have := p2 h; omega
      · rename_i h; have := p1 (by omega); omega
    · obtain ⟨p1, p2⟩ := ediv_le (a := -a) (show 0 < -b by omega)
      simp only [hp, if_false]
      split
      · rename_i h; have := p1 (by omega); omega
      · rename_i h
        by_cases h0 : a = 0
        · have := p1 (by omega); omega
        · have := p2 (by omega); omega
  unfold InW at *
  rcases h3 with h3 | h3
  · omega
  · split at h3 <;> omega
theorem Bd.ne {k : Nat} {a : Int} (h : Bd k a) (hk : k ≤ 510) : a ≠ -K5 := by
  have h1 : (2 : Int) ^ k * 2 ≤ 2 ^ 511 := by
    rw [← Int.pow_succ]; exact pow_le (by omega)
  rw [pow_2_511] at h1
  have hp := pow_2_pos k
  unfold Bd at h
  generalize (2 : Int) ^ k = p at *
  omega
theorem Bd.quo {k : Nat} {a b : Int} (h : Bd k a) (hk : k ≤ 510) (hb : b ≠ 0) : InW (quoI a b) := quoI_in (h.w hk) hb (h.ne hk)

noncomputable def r4atS : List AV → PR
  | [.agg [.int .i64 a1, .int .i64 a2, .int .i64 a3, .int .i64 b1, .int .i64 b2, .int .i64 b3, .int .i64 c1, .int .i64 c2, .int .i64 c3], .int .i64 i, .int .i64 k] => open Classical in if 0 ≤ i ∧ i < 3 ∧ 0 ≤ k ∧ k < 3 then .val (.int .i64 (mAt a1 a2 a3 b1 b2 b3 c1 c2 c3 i k)) else .fail
  | _ => .fail
@[simp] theorem r4atS_val {a1 a2 a3 b1 b2 b3 c1 c2 c3 i k : Int} (h : 0 ≤ i ∧ i < 3 ∧ 0 ≤ k ∧ k < 3) : r4atS [.agg [.int .i64 a1, .int .i64 a2, .int .i64 a3, .int .i64 b1, .int .i64 b2, .int .i64 b3, .int .i64 c1, .int .i64 c2, .int .i64 c3], .int .i64 i, .int .i64 k] = .val (.int .i64 (mAt a1 a2 a3 b1 b2 b3 c1 c2 c3 i k)) := if_pos h
theorem r4at_ok : SumOk Try.prog 140 (pureS r4atS) := by
  refine sum_fn (L := fun _ => none) (n := 1) (S := stOf []) drawS Try.T_ok (stOf_ok (by simp)) Try.func140 rfl (by kernel_rfl) (by kernel_rfl) ?_
    (by intro args v h; unfold r4atS at h; split at h <;> (try split at h) <;> simp at h)
  intro args v h
  unfold r4atS at h
  split at h
  · rename_i a1 a2 a3 b1 b2 b3 c1 c2 c3 i k
    split at h
    · rename_i hc
      obtain ⟨e0, e1, e2, e3⟩ := hc
      cases h
      refine ⟨by simp, by simp, by simp, ?_⟩
      rcases three_of e0 e1 with rfl | rfl | rfl <;> rcases three_of e2 e3 with rfl | rfl | rfl <;> simp [Try.f140, mAt]
    · simp at h
  · simp at h

noncomputable def r4colS : List AV → PR
  | [.agg [.int .i64 a1, .int .i64 a2, .int .i64 a3, .int .i64 b1, .int .i64 b2, .int .i64 b3, .int .i64 c1, .int .i64 c2, .int .i64 c3], .int .i64 k] => open Classical in if 0 ≤ k ∧ k < 3 then .val (.agg [.int .i64 (mAt a1 a2 a3 b1 b2 b3 c1 c2 c3 0 k), .int .i64 (mAt a1 a2 a3 b1 b2 b3 c1 c2 c3 1 k), .int .i64 (mAt a1 a2 a3 b1 b2 b3 c1 c2 c3 2 k)]) else .fail
  | _ => .fail
@[simp] theorem r4colS_val {a1 a2 a3 b1 b2 b3 c1 c2 c3 k : Int} (h : 0 ≤ k ∧ k < 3) : r4colS [.agg [.int .i64 a1, .int .i64 a2, .int .i64 a3, .int .i64 b1, .int .i64 b2, .int .i64 b3, .int .i64 c1, .int .i64 c2, .int .i64 c3], .int .i64 k] = .val (.agg [.int .i64 (mAt a1 a2 a3 b1 b2 b3 c1 c2 c3 0 k), .int .i64 (mAt a1 a2 a3 b1 b2 b3 c1 c2 c3 1 k), .int .i64 (mAt a1 a2 a3 b1 b2 b3 c1 c2 c3 2 k)]) := if_pos h
theorem r4col_ok : SumOk Try.prog 85 (pureS r4colS) := by
  refine sum_fn (L := fun i => if i = 1 then some (.quiet 10) else none) (n := 1) (S := stOf [(140, pureS r4atS)]) drawS Try.T_ok (stOf_ok (by simp [r4at_ok])) Try.func85 rfl (by kernel_rfl) (by kernel_rfl) ?_
    (by intro args v h; unfold r4colS at h; split at h <;> (try split at h) <;> simp at h)
  intro args v h
  unfold r4colS at h
  split at h
  · rename_i a1 a2 a3 b1 b2 b3 c1 c2 c3 k
    split at h
    · rename_i hc
      obtain ⟨e0, e1⟩ := hc
      cases h
      refine ⟨by simp, by simp, by simp, ?_⟩
      simp [Try.f85, e0, e1]
    · simp at h
  · simp at h

noncomputable def r4rowsS : List AV → PR
  | [.agg [.int .i64 a1, .int .i64 a2, .int .i64 a3], .agg [.int .i64 b1, .int .i64 b2, .int .i64 b3], .agg [.int .i64 c1, .int .i64 c2, .int .i64 c3]] => .val (.agg [.int .i64 a1, .int .i64 a2, .int .i64 a3, .int .i64 b1, .int .i64 b2, .int .i64 b3, .int .i64 c1, .int .i64 c2, .int .i64 c3])
  | _ => .fail
@[simp] theorem r4rowsS_val {a1 a2 a3 b1 b2 b3 c1 c2 c3 : Int} : r4rowsS [.agg [.int .i64 a1, .int .i64 a2, .int .i64 a3], .agg [.int .i64 b1, .int .i64 b2, .int .i64 b3], .agg [.int .i64 c1, .int .i64 c2, .int .i64 c3]] = .val (.agg [.int .i64 a1, .int .i64 a2, .int .i64 a3, .int .i64 b1, .int .i64 b2, .int .i64 b3, .int .i64 c1, .int .i64 c2, .int .i64 c3]) := rfl
theorem r4rows_ok : SumOk Try.prog 79 (pureS r4rowsS) := by
  refine sum_fn (L := fun _ => none) (n := 1) (S := stOf []) drawS Try.T_ok (stOf_ok (by simp)) Try.func79 rfl (by kernel_rfl) (by kernel_rfl) ?_
    (by intro args v h; unfold r4rowsS at h; split at h <;> (try split at h) <;> simp at h)
  intro args v h
  unfold r4rowsS at h
  split at h
  · rename_i a1 a2 a3 b1 b2 b3 c1 c2 c3
    cases h
    refine ⟨by simp, by simp, by simp, ?_⟩
    simp [Try.f79]
  · simp at h

noncomputable def r4diagS : List AV → PR
  | [.agg [.int .i64 a, .int .i64 b, .int .i64 c]] => .val (.agg [.int .i64 a, .int .i64 0, .int .i64 0, .int .i64 0, .int .i64 b, .int .i64 0, .int .i64 0, .int .i64 0, .int .i64 c])
  | _ => .fail
@[simp] theorem r4diagS_val {a b c : Int} : r4diagS [.agg [.int .i64 a, .int .i64 b, .int .i64 c]] = .val (.agg [.int .i64 a, .int .i64 0, .int .i64 0, .int .i64 0, .int .i64 b, .int .i64 0, .int .i64 0, .int .i64 0, .int .i64 c]) := rfl
theorem r4diag_ok : SumOk Try.prog 34 (pureS r4diagS) := by
  refine sum_fn (L := fun _ => none) (n := 1) (S := stOf [(79, pureS r4rowsS)]) drawS Try.T_ok (stOf_ok (by simp [r4rows_ok])) Try.func34 rfl (by kernel_rfl) (by kernel_rfl) ?_
    (by intro args v h; unfold r4diagS at h; split at h <;> (try split at h) <;> simp at h)
  intro args v h
  unfold r4diagS at h
  split at h
  · rename_i a b c
    cases h
    refine ⟨by simp, by simp, by simp, ?_⟩
    simp [Try.f34]
  · simp at h

noncomputable def r4turnedS : List AV → PR
  | [.agg [.int .i64 a1, .int .i64 a2, .int .i64 a3, .int .i64 b1, .int .i64 b2, .int .i64 b3, .int .i64 c1, .int .i64 c2, .int .i64 c3]] => .val (.agg [.int .i64 a1, .int .i64 b1, .int .i64 c1, .int .i64 a2, .int .i64 b2, .int .i64 c2, .int .i64 a3, .int .i64 b3, .int .i64 c3])
  | _ => .fail
@[simp] theorem r4turnedS_val {a1 a2 a3 b1 b2 b3 c1 c2 c3 : Int} : r4turnedS [.agg [.int .i64 a1, .int .i64 a2, .int .i64 a3, .int .i64 b1, .int .i64 b2, .int .i64 b3, .int .i64 c1, .int .i64 c2, .int .i64 c3]] = .val (.agg [.int .i64 a1, .int .i64 b1, .int .i64 c1, .int .i64 a2, .int .i64 b2, .int .i64 c2, .int .i64 a3, .int .i64 b3, .int .i64 c3]) := rfl
theorem r4turned_ok : SumOk Try.prog 38 (pureS r4turnedS) := by
  refine sum_fn (L := fun i => if i = 1 then some (.quiet 7) else none) (n := 1) (S := stOf [(85, pureS r4colS), (79, pureS r4rowsS)]) drawS Try.T_ok (stOf_ok (by simp [r4col_ok, r4rows_ok])) Try.func38 rfl (by kernel_rfl) (by kernel_rfl) ?_
    (by intro args v h; unfold r4turnedS at h; split at h <;> (try split at h) <;> simp at h)
  intro args v h
  unfold r4turnedS at h
  split at h
  · rename_i a1 a2 a3 b1 b2 b3 c1 c2 c3
    cases h
    refine ⟨by simp, by simp, by simp, ?_⟩
    simp [Try.f38, mAt]
  · simp at h

noncomputable def r4threeS : List AV → PR
  | [.int .i64 a, .int .i64 b, .int .i64 c] => open Classical in if InI a ∧ InI b ∧ InI c then .val (W (a * b * c)) else .fail
  | _ => .fail
@[simp] theorem r4threeS_val {a b c : Int} (h : InI a ∧ InI b ∧ InI c) : r4threeS [.int .i64 a, .int .i64 b, .int .i64 c] = .val (W (a * b * c)) := if_pos h
theorem r4three_ok : SumOk Try.prog 134 (pureS r4threeS) := by
  refine sum_fn (L := fun _ => none) (n := 1) (S := stOf [(147, pureS r3rawS), (146, pureS r3timesS)]) drawS Try.T_ok (stOf_ok (by simp [r3raw_ok, r3times_ok])) Try.func134 rfl (by kernel_rfl) (by kernel_rfl) ?_
    (by intro args v h; unfold r4threeS at h; split at h <;> (try split at h) <;> simp at h)
  intro args v h
  unfold r4threeS at h
  split at h
  · rename_i a b c
    split at h
    · rename_i hc
      obtain ⟨ha, hb, hc⟩ := hc
      cases h
      refine ⟨by simp, by simp, by simp, ?_⟩
      have i0 : InW (a * b) := ((Bd.of ha).mul (Bd.of hb)).w (by decide)
      have i1 : InW (a * b * c) := (((Bd.of ha).mul (Bd.of hb)).mul (Bd.of hc)).w (by decide)
      simp [Try.f134, ha, hb, hc, fitI ha, fitI hb, fitI hc, i0, sval_limb i0, i1, R8_limb]
    · simp at h
  · simp at h

noncomputable def r4exactS : List AV → PR
  | [.agg [.int .i64 a1, .int .i64 a2, .int .i64 a3, .int .i64 b1, .int .i64 b2, .int .i64 b3, .int .i64 c1, .int .i64 c2, .int .i64 c3]] => open Classical in if InI a1 ∧ InI a2 ∧ InI a3 ∧ InI b1 ∧ InI b2 ∧ InI b3 ∧ InI c1 ∧ InI c2 ∧ InI c3 then .val (W (detI a1 a2 a3 b1 b2 b3 c1 c2 c3)) else .fail
  | _ => .fail
@[simp] theorem r4exactS_val {a1 a2 a3 b1 b2 b3 c1 c2 c3 : Int} (h : InI a1 ∧ InI a2 ∧ InI a3 ∧ InI b1 ∧ InI b2 ∧ InI b3 ∧ InI c1 ∧ InI c2 ∧ InI c3) : r4exactS [.agg [.int .i64 a1, .int .i64 a2, .int .i64 a3, .int .i64 b1, .int .i64 b2, .int .i64 b3, .int .i64 c1, .int .i64 c2, .int .i64 c3]] = .val (W (detI a1 a2 a3 b1 b2 b3 c1 c2 c3)) := if_pos h
set_option maxHeartbeats 4000000 in
theorem r4exact_ok : SumOk Try.prog 69 (pureS r4exactS) := by
  refine sum_fn (L := fun i => if i = 1 then some (.held 12 [3, 4, 5, 6, 7, 8]) else if i = 2 then some (.quiet 24) else if i = 3 then some (.quiet 24) else none) (n := 1) (S := stOf [(101, pureS r3lessS), (102, pureS r3plusS), (134, pureS r4threeS)]) drawS Try.T_ok (stOf_ok (by simp [r3less_ok, r3plus_ok, r4three_ok])) Try.func69 rfl (by kernel_rfl) (by kernel_rfl) ?_
    (by intro args v h; unfold r4exactS at h; split at h <;> (try split at h) <;> simp at h)
  intro args v h
  unfold r4exactS at h
  split at h
  · rename_i a1 a2 a3 b1 b2 b3 c1 c2 c3
    split at h
    · rename_i hc
      obtain ⟨ha1, ha2, ha3, hb1, hb2, hb3, hc1, hc2, hc3⟩ := hc
      cases h
      refine ⟨by simp, by simp, by simp, ?_⟩
      have i0 : InW (a1 * b2 * c3) := (((Bd.of ha1).mul (Bd.of hb2)).mul (Bd.of hc3)).w (by decide)
      have i1 : InW (a2 * b3 * c1) := (((Bd.of ha2).mul (Bd.of hb3)).mul (Bd.of hc1)).w (by decide)
      have i2 : InW (a3 * b1 * c2) := (((Bd.of ha3).mul (Bd.of hb1)).mul (Bd.of hc2)).w (by decide)
      have i3 : InW (a3 * b2 * c1) := (((Bd.of ha3).mul (Bd.of hb2)).mul (Bd.of hc1)).w (by decide)
      have i4 : InW (a2 * b1 * c3) := (((Bd.of ha2).mul (Bd.of hb1)).mul (Bd.of hc3)).w (by decide)
      have i5 : InW (a1 * b3 * c2) := (((Bd.of ha1).mul (Bd.of hb3)).mul (Bd.of hc2)).w (by decide)
      have i6 : InW (a1 * b2 * c3 + a2 * b3 * c1) := ((((Bd.of ha1).mul (Bd.of hb2)).mul (Bd.of hc3)).add (((Bd.of ha2).mul (Bd.of hb3)).mul (Bd.of hc1))).w (by decide)
      have i7 : InW (a1 * b2 * c3 + a2 * b3 * c1 + a3 * b1 * c2) := (((((Bd.of ha1).mul (Bd.of hb2)).mul (Bd.of hc3)).add (((Bd.of ha2).mul (Bd.of hb3)).mul (Bd.of hc1))).add ((((Bd.of ha3).mul (Bd.of hb1)).mul (Bd.of hc2)).mono (by decide : 189 ≤ 190))).w (by decide)
      have i8 : InW (a3 * b2 * c1 + a2 * b1 * c3) := ((((Bd.of ha3).mul (Bd.of hb2)).mul (Bd.of hc1)).add (((Bd.of ha2).mul (Bd.of hb1)).mul (Bd.of hc3))).w (by decide)
      have i9 : InW (a3 * b2 * c1 + a2 * b1 * c3 + a1 * b3 * c2) := (((((Bd.of ha3).mul (Bd.of hb2)).mul (Bd.of hc1)).add (((Bd.of ha2).mul (Bd.of hb1)).mul (Bd.of hc3))).add ((((Bd.of ha1).mul (Bd.of hb3)).mul (Bd.of hc2)).mono (by decide : 189 ≤ 190))).w (by decide)
      have i10 : InW (a1 * b2 * c3 + a2 * b3 * c1 + a3 * b1 * c2 - (a3 * b2 * c1 + a2 * b1 * c3 + a1 * b3 * c2)) := ((((((Bd.of ha1).mul (Bd.of hb2)).mul (Bd.of hc3)).add (((Bd.of ha2).mul (Bd.of hb3)).mul (Bd.of hc1))).add ((((Bd.of ha3).mul (Bd.of hb1)).mul (Bd.of hc2)).mono (by decide : 189 ≤ 190))).sub (((((Bd.of ha3).mul (Bd.of hb2)).mul (Bd.of hc1)).add (((Bd.of ha2).mul (Bd.of hb1)).mul (Bd.of hc3))).add ((((Bd.of ha1).mul (Bd.of hb3)).mul (Bd.of hc2)).mono (by decide : 189 ≤ 190)))).w (by decide)
      have e : a1 * b2 * c3 + a2 * b3 * c1 + a3 * b1 * c2 - (a3 * b2 * c1 + a2 * b1 * c3 + a1 * b3 * c2) = detI a1 a2 a3 b1 b2 b3 c1 c2 c3 := by unfold detI; grind
      simp (maxSteps := 10000000) [Try.f69, ha1, ha2, ha3, hb1, hb2, hb3, hc1, hc2, hc3, sval_limb i0, sval_limb i1, sval_limb i2, sval_limb i3, sval_limb i4, sval_limb i5, i6, sval_limb i6, i7, sval_limb i7, i8, sval_limb i8, i9, sval_limb i9, i10, R8_limb]
      rw [e]
      exact Eqv.refl _
    · simp at h
  · simp at h

noncomputable def r4detS : List AV → PR
  | [.agg [.int .i64 a1, .int .i64 a2, .int .i64 a3, .int .i64 b1, .int .i64 b2, .int .i64 b3, .int .i64 c1, .int .i64 c2, .int .i64 c3]] => open Classical in if InI a1 ∧ InI a2 ∧ InI a3 ∧ InI b1 ∧ InI b2 ∧ InI b3 ∧ InI c1 ∧ InI c2 ∧ InI c3 then .val (.int .i64 (clampI (detI a1 a2 a3 b1 b2 b3 c1 c2 c3 / 2 ^ 64))) else .fail
  | _ => .fail
@[simp] theorem r4detS_val {a1 a2 a3 b1 b2 b3 c1 c2 c3 : Int} (h : InI a1 ∧ InI a2 ∧ InI a3 ∧ InI b1 ∧ InI b2 ∧ InI b3 ∧ InI c1 ∧ InI c2 ∧ InI c3) : r4detS [.agg [.int .i64 a1, .int .i64 a2, .int .i64 a3, .int .i64 b1, .int .i64 b2, .int .i64 b3, .int .i64 c1, .int .i64 c2, .int .i64 c3]] = .val (.int .i64 (clampI (detI a1 a2 a3 b1 b2 b3 c1 c2 c3 / 2 ^ 64))) := if_pos h
theorem r4det_ok : SumOk Try.prog 23 (pureS r4detS) := by
  refine sum_fn (L := fun _ => none) (n := 1) (S := stOf [(68, pureS r2inS), (69, pureS r4exactS)]) drawS Try.T_ok (stOf_ok (by simp [r2in_ok, r4exact_ok])) Try.func23 rfl (by kernel_rfl) (by kernel_rfl) ?_
    (by intro args v h; unfold r4detS at h; split at h <;> (try split at h) <;> simp at h)
  intro args v h
  unfold r4detS at h
  split at h
  · rename_i a1 a2 a3 b1 b2 b3 c1 c2 c3
    split at h
    · rename_i hc
      obtain ⟨ha1, ha2, ha3, hb1, hb2, hb3, hc1, hc2, hc3⟩ := hc
      cases h
      refine ⟨by simp, by simp, by simp, ?_⟩
      have i := (Bd.det (Bd.of ha1) (Bd.of ha2) (Bd.of ha3) (Bd.of hb1) (Bd.of hb2) (Bd.of hb3) (Bd.of hc1) (Bd.of hc2) (Bd.of hc3)).w (by decide)
      simp [Try.f23, ha1, ha2, ha3, hb1, hb2, hb3, hc1, hc2, hc3, R8_limb, sval_limb i]
    · simp at h
  · simp at h

noncomputable def r4withS : List AV → PR
  | [.agg [.int .i64 a1, .int .i64 a2, .int .i64 a3, .int .i64 b1, .int .i64 b2, .int .i64 b3, .int .i64 c1, .int .i64 c2, .int .i64 c3], .int .i64 k, .agg [.int .i64 x, .int .i64 y, .int .i64 z]] => open Classical in if 0 ≤ k ∧ k < 3 then .val (.agg [.int .i64 (if k = 0 then x else a1), .int .i64 (if k = 1 then x else a2), .int .i64 (if k = 2 then x else a3), .int .i64 (if k = 0 then y else b1), .int .i64 (if k = 1 then y else b2), .int .i64 (if k = 2 then y else b3), .int .i64 (if k = 0 then z else c1), .int .i64 (if k = 1 then z else c2), .int .i64 (if k = 2 then z else c3)]) else .fail
  | _ => .fail
@[simp] theorem r4withS_val {a1 a2 a3 b1 b2 b3 c1 c2 c3 k x y z : Int} (h : 0 ≤ k ∧ k < 3) : r4withS [.agg [.int .i64 a1, .int .i64 a2, .int .i64 a3, .int .i64 b1, .int .i64 b2, .int .i64 b3, .int .i64 c1, .int .i64 c2, .int .i64 c3], .int .i64 k, .agg [.int .i64 x, .int .i64 y, .int .i64 z]] = .val (.agg [.int .i64 (if k = 0 then x else a1), .int .i64 (if k = 1 then x else a2), .int .i64 (if k = 2 then x else a3), .int .i64 (if k = 0 then y else b1), .int .i64 (if k = 1 then y else b2), .int .i64 (if k = 2 then y else b3), .int .i64 (if k = 0 then z else c1), .int .i64 (if k = 1 then z else c2), .int .i64 (if k = 2 then z else c3)]) := if_pos h
theorem r4with_ok : SumOk Try.prog 82 (pureS r4withS) := by
  refine sum_fn (L := fun _ => none) (n := 1) (S := stOf [(38, pureS r4turnedS)]) drawS Try.T_ok (stOf_ok (by simp [r4turned_ok])) Try.func82 rfl (by kernel_rfl) (by kernel_rfl) ?_
    (by intro args v h; unfold r4withS at h; split at h <;> (try split at h) <;> simp at h)
  intro args v h
  unfold r4withS at h
  split at h
  · rename_i a1 a2 a3 b1 b2 b3 c1 c2 c3 k x y z
    split at h
    · rename_i hc
      obtain ⟨e0, e1⟩ := hc
      cases h
      refine ⟨by simp, by simp, by simp, ?_⟩
      rcases three_of e0 e1 with rfl | rfl | rfl <;> simp [Try.f82]
    · simp at h
  · simp at h

noncomputable def r4overS : List AV → PR
  | [.arr .u64 8 f, .int .i64 n, .arr .u64 8 g] => open Classical in if R8 f ∧ R8 g ∧ 0 ≤ n ∧ n < 512 ∧ InW (sval f * 2 ^ n.toNat) ∧ sval g ≠ 0 ∧ InW (quoI (sval f * 2 ^ n.toNat) (sval g)) then .val (.int .i64 (clampI (quoI (sval f * 2 ^ n.toNat) (sval g)))) else .fail
  | _ => .fail
@[simp] theorem r4overS_val {f g : Nat → Int} {n : Int} (h : R8 f ∧ R8 g ∧ 0 ≤ n ∧ n < 512 ∧ InW (sval f * 2 ^ n.toNat) ∧ sval g ≠ 0 ∧ InW (quoI (sval f * 2 ^ n.toNat) (sval g))) : r4overS [.arr .u64 8 f, .int .i64 n, .arr .u64 8 g] = .val (.int .i64 (clampI (quoI (sval f * 2 ^ n.toNat) (sval g)))) := if_pos h
theorem r4over_ok : SumOk Try.prog 81 (pureS r4overS) := by
  refine sum_fn (L := fun i => if i = 1 then some (.held 11 [7, 8]) else none) (n := 1) (S := stOf [(136, pureS divS), (130, pureS rwithinS), (103, pureS r3twiceS)]) drawS Try.T_ok (stOf_ok (by simp [rdiv_ok, rwithin_ok, r3twice_ok])) Try.func81 rfl (by kernel_rfl) (by kernel_rfl) ?_
    (by intro args v h; unfold r4overS at h; split at h <;> (try split at h) <;> simp at h)
  intro args v h
  unfold r4overS at h
  split at h
  · rename_i f n g
    split at h
    · rename_i hc
      obtain ⟨hf, hg, e0, e1, e2, e3, e4⟩ := hc
      cases h
      refine ⟨by simp, by simp, by simp, ?_⟩
      have q : n < 9223372036854775808 := by omega
      simp [Try.f81, hf, hg, e0, e2, e3, e4, R8_limb, q, quoV, sval_limb e2, sval_limb e4]
    · simp at h
  · simp at h

noncomputable def r4solveS : List AV → PR
  | [.agg [.int .i64 a1, .int .i64 a2, .int .i64 a3, .int .i64 b1, .int .i64 b2, .int .i64 b3, .int .i64 c1, .int .i64 c2, .int .i64 c3], .agg [.int .i64 x, .int .i64 y, .int .i64 z]] => open Classical in if InI a1 ∧ InI a2 ∧ InI a3 ∧ InI b1 ∧ InI b2 ∧ InI b3 ∧ InI c1 ∧ InI c2 ∧ InI c3 ∧ InI x ∧ InI y ∧ InI z then .val (if detI a1 a2 a3 b1 b2 b3 c1 c2 c3 = 0 then .tup [.agg [.int .i64 0, .int .i64 0, .int .i64 0], .bool false] else .tup [.agg [.int .i64 (clampI (quoI (detI x a2 a3 y b2 b3 z c2 c3 * 2 ^ 32) (detI a1 a2 a3 b1 b2 b3 c1 c2 c3))), .int .i64 (clampI (quoI (detI a1 x a3 b1 y b3 c1 z c3 * 2 ^ 32) (detI a1 a2 a3 b1 b2 b3 c1 c2 c3))), .int .i64 (clampI (quoI (detI a1 a2 x b1 b2 y c1 c2 z * 2 ^ 32) (detI a1 a2 a3 b1 b2 b3 c1 c2 c3)))], .bool true]) else .fail
  | _ => .fail
@[simp] theorem r4solveS_val {a1 a2 a3 b1 b2 b3 c1 c2 c3 x y z : Int} (h : InI a1 ∧ InI a2 ∧ InI a3 ∧ InI b1 ∧ InI b2 ∧ InI b3 ∧ InI c1 ∧ InI c2 ∧ InI c3 ∧ InI x ∧ InI y ∧ InI z) : r4solveS [.agg [.int .i64 a1, .int .i64 a2, .int .i64 a3, .int .i64 b1, .int .i64 b2, .int .i64 b3, .int .i64 c1, .int .i64 c2, .int .i64 c3], .agg [.int .i64 x, .int .i64 y, .int .i64 z]] = .val (if detI a1 a2 a3 b1 b2 b3 c1 c2 c3 = 0 then .tup [.agg [.int .i64 0, .int .i64 0, .int .i64 0], .bool false] else .tup [.agg [.int .i64 (clampI (quoI (detI x a2 a3 y b2 b3 z c2 c3 * 2 ^ 32) (detI a1 a2 a3 b1 b2 b3 c1 c2 c3))), .int .i64 (clampI (quoI (detI a1 x a3 b1 y b3 c1 z c3 * 2 ^ 32) (detI a1 a2 a3 b1 b2 b3 c1 c2 c3))), .int .i64 (clampI (quoI (detI a1 a2 x b1 b2 y c1 c2 z * 2 ^ 32) (detI a1 a2 a3 b1 b2 b3 c1 c2 c3)))], .bool true]) := if_pos h
set_option maxHeartbeats 4000000 in
theorem r4solve_ok : SumOk Try.prog 33 (pureS r4solveS) := by
  refine sum_fn (L := fun i => if i = 4 then some (.quiet 19) else none) (n := 1) (S := stOf [(80, pureS signS), (69, pureS r4exactS), (81, pureS r4overS), (82, pureS r4withS)]) drawS Try.T_ok (stOf_ok (by simp [rsign_ok, r4exact_ok, r4over_ok, r4with_ok])) Try.func33 rfl (by kernel_rfl) (by kernel_rfl) ?_
    (by intro args v h; unfold r4solveS at h; split at h <;> (try split at h) <;> simp at h)
  intro args v h
  unfold r4solveS at h
  split at h
  · rename_i a1 a2 a3 b1 b2 b3 c1 c2 c3 x y z
    split at h
    · rename_i hc
      obtain ⟨ha1, ha2, ha3, hb1, hb2, hb3, hc1, hc2, hc3, hx, hy, hz⟩ := hc
      cases h
      refine ⟨by simp, by (split <;> simp), by (split <;> simp), ?_⟩
      have u : Bd 192 (detI a1 a2 a3 b1 b2 b3 c1 c2 c3) := Bd.det (Bd.of ha1) (Bd.of ha2) (Bd.of ha3) (Bd.of hb1) (Bd.of hb2) (Bd.of hb3) (Bd.of hc1) (Bd.of hc2) (Bd.of hc3)
      have i := u.w (by decide)
      have u0 : Bd 192 (detI x a2 a3 y b2 b3 z c2 c3) := Bd.det (Bd.of hx) (Bd.of ha2) (Bd.of ha3) (Bd.of hy) (Bd.of hb2) (Bd.of hb3) (Bd.of hz) (Bd.of hc2) (Bd.of hc3)
      have i0 := u0.w (by decide)
      have p0 : InW (detI x a2 a3 y b2 b3 z c2 c3 * 4294967296) := by simpa using (u0.shl 32).w (by decide)
      have u1 : Bd 192 (detI a1 x a3 b1 y b3 c1 z c3) := Bd.det (Bd.of ha1) (Bd.of hx) (Bd.of ha3) (Bd.of hb1) (Bd.of hy) (Bd.of hb3) (Bd.of hc1) (Bd.of hz) (Bd.of hc3)
      have i1 := u1.w (by decide)
      have p1 : InW (detI a1 x a3 b1 y b3 c1 z c3 * 4294967296) := by simpa using (u1.shl 32).w (by decide)
      have u2 : Bd 192 (detI a1 a2 x b1 b2 y c1 c2 z) := Bd.det (Bd.of ha1) (Bd.of ha2) (Bd.of hx) (Bd.of hb1) (Bd.of hb2) (Bd.of hy) (Bd.of hc1) (Bd.of hc2) (Bd.of hz)
      have i2 := u2.w (by decide)
      have p2 : InW (detI a1 a2 x b1 b2 y c1 c2 z * 4294967296) := by simpa using (u2.shl 32).w (by decide)
      by_cases hd : detI a1 a2 a3 b1 b2 b3 c1 c2 c3 = 0
      · have s0 : sgnI (detI a1 a2 a3 b1 b2 b3 c1 c2 c3) = 0 := by rw [hd]; decide
        simp [ha1, ha2, ha3, hb1, hb2, hb3, hc1, hc2, hc3, R8_limb, R8_limb, Try.f33, hd]
      · have s0 : ¬ sgnI (detI a1 a2 a3 b1 b2 b3 c1 c2 c3) = 0 := fun e => hd (sgnI_zero.1 e)
        have q0 := (show Bd 224 (_ * 4294967296) by simpa using u0.shl 32).quo (by decide) hd
        have q1 := (show Bd 224 (_ * 4294967296) by simpa using u1.shl 32).quo (by decide) hd
        have q2 := (show Bd 224 (_ * 4294967296) by simpa using u2.shl 32).quo (by decide) hd
        simp [ha1, ha2, ha3, hb1, hb2, hb3, hc1, hc2, hc3, hx, hy, hz, R8_limb, R8_limb, Try.f33, hd, s0, sval_limb i, sval_limb i0, sval_limb i1, sval_limb i2, p0, p1, p2, q0, q1, q2]
    · simp at h
  · simp at h

end Go.X
