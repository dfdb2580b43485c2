/- Shapes without a list. -/
import Derived.Test.YtgejbdalmjopiaaGreatGV
import Derived.Test.YtgejbdalmjopiaaGreatGN

section
namespace Go.X
open Go.Proofs
attribute [local irreducible] Good
attribute [simp] Tryz.T_27
attribute [simp] Tryz.T_152
attribute [simp] Tryz.T_153
attribute [simp] Tryz.T_155
attribute [simp] Tryz.T_157
attribute [simp] Tryz.T_149
attribute [simp] Tryz.T_150
attribute [simp] Tryz.T_208
attribute [simp] Tryz.T_25
attribute [simp] Tryz.T_183
def May1 (r x y z : Int) : Prop := 0 < r ∧ x = 0 ∧ y = 0 ∧ z = 0
def May2 (r x y z : Int) : Prop := 0 < r ∧ x = 0 ∧ y = 0 ∧ 0 < z
def May3 (r x y z : Int) : Prop := 0 ≤ r ∧ 65536 ≤ min3 x y z
def Flat0 (x y z : Int) : Prop := x = 0 ∧ y = 0 ∧ z = 0
instance (r x y z : Int) : Decidable (May1 r x y z) := inferInstanceAs (Decidable (_ ∧ _))
instance (r x y z : Int) : Decidable (May2 r x y z) := inferInstanceAs (Decidable (_ ∧ _))
instance (r x y z : Int) : Decidable (May3 r x y z) := inferInstanceAs (Decidable (_ ∧ _))
instance (x y z : Int) : Decidable (Flat0 x y z) := inferInstanceAs (Decidable (_ ∧ _))
instance (a b c : Int) : Decidable (Size3 a b c) := inferInstanceAs (Decidable (_ ∧ _))
def MayN (kd r x y z : Int) : Prop := (kd = 1 ∧ May1 r x y z) ∨ (kd = 2 ∧ May2 r x y z) ∨ (kd = 3 ∧ May3 r x y z)
def OkN (kd r x y z : Int) : Prop := MayN kd r x y z ∧ r ≤ 274877906944 ∧ Size3 x y z
instance (kd r x y z : Int) : Decidable (MayN kd r x y z) := inferInstanceAs (Decidable (_ ∨ _))
instance (kd r x y z : Int) : Decidable (OkN kd r x y z) := inferInstanceAs (Decidable (_ ∧ _))
abbrev VB (n c : Nat) (F : Nat → Int) : Blk := ⟨[.arr .i64 ((n + c) * 3) (cutL (n * 3) F)], 24⟩
theorem min3_le {x y z : Int} : 65536 ≤ min3 x y z ↔ 65536 ≤ x ∧ 65536 ≤ y ∧ 65536 ≤ z := by
  unfold min3; (repeat' split) <;> omega
theorem okN_1 {r x y z : Int} : OkN 1 r x y z ↔ May1 r x y z ∧ r ≤ 274877906944 ∧ Size3 x y z := by simp [OkN, MayN]
theorem okN_2 {r x y z : Int} : OkN 2 r x y z ↔ May2 r x y z ∧ r ≤ 274877906944 ∧ Size3 x y z := by simp [OkN, MayN]
theorem okN_3 {r x y z : Int} : OkN 3 r x y z ↔ May3 r x y z ∧ r ≤ 274877906944 ∧ Size3 x y z := by simp [OkN, MayN]
theorem okN_not {kd r x y z : Int} (h1 : ¬ kd = 1) (h2 : ¬ kd = 2) (h3 : ¬ kd = 3) : ¬ OkN kd r x y z := by simp [OkN, MayN, h1, h2, h3]
noncomputable def kin1S : List AV → PR
  | [.agg [.int .i64 _, .int .i64 _, .int .i64 x, .int .i64 y, .int .i64 z, .nilslice]] => open Classical in if InI x ∧ InI y ∧ InI z then .val (.bool (decide (Flat0 x y z))) else .fail
  | _ => .fail
@[simp] theorem kin1S_val {kd r x y z : Int} (h : InI x ∧ InI y ∧ InI z) : kin1S [.agg [.int .i64 kd, .int .i64 r, .int .i64 x, .int .i64 y, .int .i64 z, .nilslice]] = .val (.bool (decide (Flat0 x y z))) := if_pos h
theorem kin1_ok : SumOk Tryz.prog 183 (pureS kin1S) := by
  refine sum_fn (L := fun _ => none) (n := 1) (S := stOf []) drawS Tryz.T_ok (stOf_ok (by simp)) Tryz.func183 rfl (by kernel_rfl) (by kernel_rfl) ?_
    (by intro args v h; unfold kin1S at h; split at h <;> (try split at h) <;> simp at h)
  intro args v h
  unfold kin1S at h
  split at h
  · rename_i kd r x y z
    split at h
    · rename_i hc
      obtain ⟨hx, hy, hz⟩ := hc
      cases h
      refine ⟨by simp, by simp, by simp, ?_⟩
      by_cases h1 : x = 0
      · by_cases h2 : y = 0
        · by_cases h3 : z = 0
          · simp [Tryz.f183, Flat0, h1, h2, h3]
          · have bz : (z == 0) = false := by simpa using h3
            simp [Tryz.f183, Flat0, h1, h2, h3, bz]
        · have byy : (y == 0) = false := by simpa using h2
          simp [Tryz.f183, Flat0, h1, h2, byy]
      · have bx : (x == 0) = false := by simpa using h1
        simp [Tryz.f183, Flat0, h1, bx]
    · simp at h
  · simp at h
noncomputable def kin2S : Sum := fun args env _ => match args with
  | [.agg [.int .i64 _, .int .i64 r, .int .i64 x, .int .i64 y, .int .i64 z, .nilslice], .ptr p 0] => match env p with
    | some ⟨[.fn 183 []], _⟩ => open Classical in if InI r ∧ InI x ∧ InI y ∧ InI z then .val (.bool (decide (May1 r x y z))) [] [] else .fail
    | _ => .fail
  | _ => .fail
theorem kin2_ok : SumOk Tryz.prog 184 kin2S := by
  refine sum_read (L := fun _ => none) (n := 1) (S := stOf [(183, pureS kin1S)]) drawS Tryz.T_ok (stOf_ok (by simp [kin1_ok])) Tryz.func184 rfl (by kernel_rfl) (by kernel_rfl) ?_
  intro args env nxt h
  unfold kin2S at h ⊢
  split at h
  · rename_i kd r x y z p
    split at h
    · rename_i  ty0 m0
      split at h
      · rename_i hc
        obtain ⟨hr, hx, hy, hz⟩ := id hc
        refine ⟨_, _, _, .bool (decide (May1 r x y z)), laid1 [.agg [.int .i64 kd, .int .i64 r, .int .i64 x, .int .i64 y, .int .i64 z, .nilslice], .ptr 0 0] rfl (by simp) m0 rfl, by first | exact if_pos hc | (simp only [m0]; exact if_pos hc) | (simp [m0]; exact hc), by simp, by simp, ?_⟩
        have m1 : May1 r x y z ↔ 0 < r ∧ Flat0 x y z := Iff.rfl
        by_cases h1 : 0 < r
        · by_cases h2 : Flat0 x y z <;> simp [hx, hy, hz, Tryz.f184, m1, h1, h2]
        · simp [Tryz.f184, m1, h1]
      · simp at h
    · simp at h
  · simp at h
noncomputable def kin4S : List AV → PR
  | [.agg [.int .i64 _, .int .i64 r, .int .i64 x, .int .i64 y, .int .i64 z, .nilslice]] => open Classical in if InI r ∧ InI x ∧ InI y ∧ InI z then .val (.bool (decide (May2 r x y z))) else .fail
  | _ => .fail
@[simp] theorem kin4S_val {kd r x y z : Int} (h : InI r ∧ InI x ∧ InI y ∧ InI z) : kin4S [.agg [.int .i64 kd, .int .i64 r, .int .i64 x, .int .i64 y, .int .i64 z, .nilslice]] = .val (.bool (decide (May2 r x y z))) := if_pos h
theorem kin4_ok : SumOk Tryz.prog 186 (pureS kin4S) := by
  refine sum_fn (L := fun _ => none) (n := 1) (S := stOf []) drawS Tryz.T_ok (stOf_ok (by simp)) Tryz.func186 rfl (by kernel_rfl) (by kernel_rfl) ?_
    (by intro args v h; unfold kin4S at h; split at h <;> (try split at h) <;> simp at h)
  intro args v h
  unfold kin4S at h
  split at h
  · rename_i kd r x y z
    split at h
    · rename_i hc
      obtain ⟨hr, hx, hy, hz⟩ := hc
      cases h
      refine ⟨by simp, by simp, by simp, ?_⟩
      by_cases h0 : 0 < r
      · by_cases h1 : x = 0
        · by_cases h2 : y = 0
          · by_cases h3 : 0 < z
            · simp [Tryz.f186, May2, h0, h1, h2, h3]
            · simp [Tryz.f186, May2, h0, h1, h2, h3]
          · have byy : (y == 0) = false := by simpa using h2
            simp [Tryz.f186, May2, h0, h1, h2, byy]
        · have bx : (x == 0) = false := by simpa using h1
          simp [Tryz.f186, May2, h0, h1, bx]
      · simp [Tryz.f186, May2, h0]
    · simp at h
  · simp at h
noncomputable def kin6S : List AV → PR
  | [.agg [.int .i64 _, .int .i64 r, .int .i64 x, .int .i64 y, .int .i64 z, .nilslice]] => open Classical in if InI r ∧ InI x ∧ InI y ∧ InI z then .val (.bool (decide (May3 r x y z))) else .fail
  | _ => .fail
@[simp] theorem kin6S_val {kd r x y z : Int} (h : InI r ∧ InI x ∧ InI y ∧ InI z) : kin6S [.agg [.int .i64 kd, .int .i64 r, .int .i64 x, .int .i64 y, .int .i64 z, .nilslice]] = .val (.bool (decide (May3 r x y z))) := if_pos h
theorem kin6_ok : SumOk Tryz.prog 188 (pureS kin6S) := by
  refine sum_fn (L := fun _ => none) (n := 1) (S := stOf []) drawS Tryz.T_ok (stOf_ok (by simp)) Tryz.func188 rfl (by kernel_rfl) (by kernel_rfl) ?_
    (by intro args v h; unfold kin6S at h; split at h <;> (try split at h) <;> simp at h)
  intro args v h
  unfold kin6S at h
  split at h
  · rename_i kd r x y z
    split at h
    · rename_i hc
      obtain ⟨hr, hx, hy, hz⟩ := hc
      cases h
      refine ⟨by simp, by simp, by simp, ?_⟩
      by_cases h1 : 0 ≤ r
      · by_cases h2 : 65536 ≤ min3 x y z <;> simp [Tryz.f188, May3, min3_is, h1, h2]
      · simp [Tryz.f188, May3, h1]
    · simp at h
  · simp at h
noncomputable def kin7S : List AV → PR
  | [.agg [.int .i64 _, .int .i64 r, .int .i64 x, .int .i64 y, .int .i64 z, .nilslice]] => open Classical in if InI r ∧ InI x ∧ InI y ∧ InI z then .val (.bool false) else .fail
  | _ => .fail
@[simp] theorem kin7S_val {kd r x y z : Int} (h : InI r ∧ InI x ∧ InI y ∧ InI z) : kin7S [.agg [.int .i64 kd, .int .i64 r, .int .i64 x, .int .i64 y, .int .i64 z, .nilslice]] = .val (.bool false) := if_pos h
theorem kin7_ok : SumOk Tryz.prog 190 (pureS kin7S) := by
  refine sum_fn (L := fun _ => none) (n := 1) (S := stOf []) drawS Tryz.T_ok (stOf_ok (by simp)) Tryz.func190 rfl (by kernel_rfl) (by kernel_rfl) ?_
    (by intro args v h; unfold kin7S at h; split at h <;> (try split at h) <;> simp at h)
  intro args v h
  unfold kin7S at h
  split at h
  · rename_i kd r x y z
    split at h
    · rename_i hc
      obtain ⟨hr, hx, hy, hz⟩ := hc
      cases h
      refine ⟨by simp, by simp, by simp, ?_⟩
      by_cases h0 : 0 ≤ r
      · by_cases h1 : x = 0
        · by_cases h2 : y = 0
          · by_cases h3 : z = 0
            · simp [Tryz.f190, h0, h1, h2, h3]
            · have bz : (z == 0) = false := by simpa using h3
              simp [Tryz.f190, h0, h1, h2, bz]
          · have byy : (y == 0) = false := by simpa using h2
            simp [Tryz.f190, h0, h1, byy]
        · have bx : (x == 0) = false := by simpa using h1
          simp [Tryz.f190, h0, bx]
      · simp [Tryz.f190, h0]
    · simp at h
  · simp at h
noncomputable def small9S : List AV → PR
  | [.agg [.int .i64 x, .int .i64 y, .int .i64 z]] => open Classical in if InI x ∧ InI y ∧ InI z then .val (.bool (decide (Size3 x y z))) else .fail
  | _ => .fail
@[simp] theorem small9S_val {x y z : Int} (h : InI x ∧ InI y ∧ InI z) : small9S [.agg [.int .i64 x, .int .i64 y, .int .i64 z]] = .val (.bool (decide (Size3 x y z))) := if_pos h
theorem small9_ok : SumOk Tryz.prog 133 (pureS small9S) := by
  refine sum_fn (L := fun _ => none) (n := 1) (S := stOf []) drawS Tryz.T_ok (stOf_ok (by simp)) Tryz.func133 rfl (by kernel_rfl) (by kernel_rfl) ?_
    (by intro args v h; unfold small9S at h; split at h <;> (try split at h) <;> simp at h)
  intro args v h
  unfold small9S at h
  split at h
  · rename_i x y z
    split at h
    · rename_i hc
      obtain ⟨hx, hy, hz⟩ := hc
      cases h
      refine ⟨by simp, by simp, by simp, ?_⟩
      by_cases sz : Size3 x y z
      · have sz2 := size_iff.1 sz
        have k3 : max3 x y z ≤ 274877906944 := by omega
        have k4 : -274877906944 ≤ min3 x y z := by omega
        simp [Tryz.f133, max3_is, min3_is, sz, k3, k4]
      · have sz2 : 274877906944 < max3 x y z ∨ min3 x y z < -274877906944 := by
          rw [size_iff] at sz; omega
        rcases Decidable.em (274877906944 < max3 x y z) with k1 | k1
        · have k3 : ¬ max3 x y z ≤ 274877906944 := by omega
          simp [Tryz.f133, max3_is, sz, k3]
        · have k2 := sz2.resolve_left k1
          have k3 : max3 x y z ≤ 274877906944 := by omega
          have k4 : ¬ -274877906944 ≤ min3 x y z := by omega
          simp [Tryz.f133, max3_is, min3_is, sz, k3, k4]
    · simp at h
  · simp at h
noncomputable def fineNS : List AV → PR
  | [.nilslice] => .val (.bool true)
  | _ => .fail
@[simp] theorem fineNS_val : fineNS [.nilslice] = .val (.bool true) := rfl
theorem fineN_ok : SumOk Tryz.prog 209 (pureS fineNS) := by
  refine sum_fn (L := fun _ => none) (n := 1) (S := stOf []) drawS Tryz.T_ok (stOf_ok (by simp)) Tryz.func209 rfl (by kernel_rfl) (by kernel_rfl) ?_
    (by intro args v h; unfold fineNS at h; split at h <;> (try split at h) <;> simp at h)
  intro args v h
  unfold fineNS at h
  split at h
  · skip
    cases h
    refine ⟨by simp, by simp, by simp, ?_⟩
    simp [Tryz.f209]
  · simp at h
noncomputable def spreadNS : List AV → PR
  | [.nilslice] => .val (.tup [.nilslice, .int .i64 0])
  | _ => .fail
theorem spreadN_ok : SumOk Tryz.prog 194 (pureS spreadNS) := by
  refine sum_read (L := fun _ => none) (n := 2) (S := stOf [(209, pureS fineNS)]) drawS Tryz.T_ok (stOf_ok (by simp [fineN_ok])) Tryz.func194 rfl (by kernel_rfl) (by kernel_rfl) ?_
  intro args env nxt h
  unfold pureS spreadNS at h ⊢
  split at h
  · rename_i v hv
    split at hv
    · cases hv
      refine ⟨[.nilslice], [], [], .tup [.nilslice, .int .i64 0], ⟨rfl, rfl, by simp, by simp, by simp, by simp⟩, rfl, rfl, by simp, ?_⟩
      simp [Tryz.f194]
    · simp at hv
  · rename_i v hv
    split at hv <;> simp at hv
  · simp at h
noncomputable def rankNS : List AV → PR
  | [.nilslice] => .val (.tup [.int .i64 (-1), .int .i64 0])
  | _ => .fail
@[simp] theorem rankNS_val : rankNS [.nilslice] = .val (.tup [.int .i64 (-1), .int .i64 0]) := rfl
theorem rankN_ok : SumOk Tryz.prog 135 (pureS rankNS) := by
  refine sum_fn (L := fun _ => none) (n := 1) (S := stOf [(194, pureS spreadNS)]) drawS Tryz.T_ok (stOf_ok (by simp [spreadN_ok])) Tryz.func135 rfl (by kernel_rfl) (by kernel_rfl) ?_
    (by intro args v h; unfold rankNS at h; split at h <;> (try split at h) <;> simp at h)
  intro args v h
  unfold rankNS at h
  split at h
  · skip
    cases h
    refine ⟨by simp, by simp, by simp, ?_⟩
    simp [Tryz.f135, spreadNS]
  · simp at h
noncomputable def kindsS : Sum := fun args _ nxt => match args with
  | [] => .val (.agg [.nilfn, .nilfn, .fn 184 [.ptr nxt 0], .fn 185 [], .fn 186 [], .fn 187 [], .fn 188 [], .fn 189 [], .fn 190 [], .fn 191 []]) [] [⟨[.fn 183 []], 149⟩]
  | _ => .fail
theorem kinds_ok : SumOk Tryz.prog 132 kindsS := by
  refine sum_mem (L := fun _ => none) (n := 1) (S := stOf []) drawS Tryz.T_ok (stOf_ok (by simp)) Tryz.func132 rfl (by kernel_rfl) (by kernel_rfl) ?_
  intro args env nxt h
  unfold kindsS at h ⊢
  split at h
  · refine ⟨[], [], [], ⟨rfl, rfl, by simp, by simp, by simp, by simp⟩, ?_⟩
    simp [Tryz.f132]
    exact ⟨[1], none, told_one (by simp) rfl (by simp) (by simp) (by simp [AV.ren, renL, glob]) (by simp) (by simp)⟩
  · simp at h
noncomputable def checkNS : List AV → PR
  | [.agg [.int .i64 kd, .int .i64 r, .int .i64 x, .int .i64 y, .int .i64 z, .nilslice]] => open Classical in if InI kd ∧ InI r ∧ InI x ∧ InI y ∧ InI z then .val (.int .i64 (if OkN kd r x y z then 0 else 2)) else .fail
  | _ => .fail
@[simp] theorem checkNS_val {kd r x y z : Int} (h : InI kd ∧ InI r ∧ InI x ∧ InI y ∧ InI z) : checkNS [.agg [.int .i64 kd, .int .i64 r, .int .i64 x, .int .i64 y, .int .i64 z, .nilslice]] = .val (.int .i64 (if OkN kd r x y z then 0 else 2)) := if_pos h
set_option maxHeartbeats 40000000 in
theorem checkN_ok : SumOk Tryz.prog 68 (pureS checkNS) := by
  refine sum_fn (L := fun _ => none) (n := 2) (S := stOf [(132, kindsS), (184, kin2S), (186, pureS kin4S), (188, pureS kin6S), (190, pureS kin7S), (133, pureS small9S), (135, pureS rankNS)]) drawS Tryz.T_ok (stOf_ok (by simp [kinds_ok, kin2_ok, kin4_ok, kin6_ok, kin7_ok, small9_ok, rankN_ok])) Tryz.func68 rfl (by kernel_rfl) (by kernel_rfl) ?_
    (by intro args v h; unfold checkNS at h; split at h <;> (try split at h) <;> simp at h)
  intro args v h
  unfold checkNS at h
  split at h
  · rename_i kd r x y z
    split at h
    · rename_i hc
      obtain ⟨hkd, hr, hx, hy, hz⟩ := hc
      cases h
      refine ⟨by simp, by simp, by simp, ?_⟩
      by_cases k1 : kd = 1
      · subst k1
        by_cases m1 : May1 r x y z
        · by_cases m2 : r ≤ 274877906944
          · have m4 : ¬ 274877906944 < r := by omega
            by_cases m3 : Size3 x y z <;> simp (maxSteps := 10000000) [hr, hx, hy, hz, kindsS, kin2S, Tryz.f68, okN_1, m1, m2, m3, m4]
          · have m4 : 274877906944 < r := by omega
            simp (maxSteps := 10000000) [hr, hx, hy, hz, kindsS, kin2S, Tryz.f68, okN_1, m1, m2, m4]
        · simp (maxSteps := 10000000) [hr, hx, hy, hz, kindsS, kin2S, Tryz.f68, okN_1, m1]
      · by_cases k2 : kd = 2
        · subst k2
          by_cases m1 : May2 r x y z
          · by_cases m2 : r ≤ 274877906944
            · have m4 : ¬ 274877906944 < r := by omega
              by_cases m3 : Size3 x y z <;> simp (maxSteps := 10000000) [hr, hx, hy, hz, kindsS, Tryz.f68, okN_2, m1, m2, m3, m4]
            · have m4 : 274877906944 < r := by omega
              simp (maxSteps := 10000000) [hr, hx, hy, hz, kindsS, Tryz.f68, okN_2, m1, m2, m4]
          · simp (maxSteps := 10000000) [hr, hx, hy, hz, kindsS, Tryz.f68, okN_2, m1]
        · by_cases k3 : kd = 3
          · subst k3
            by_cases m1 : May3 r x y z
            · by_cases m2 : r ≤ 274877906944
              · have m4 : ¬ 274877906944 < r := by omega
                by_cases m3 : Size3 x y z <;> simp (maxSteps := 10000000) [hr, hx, hy, hz, kindsS, Tryz.f68, okN_3, m1, m2, m3, m4]
              · have m4 : 274877906944 < r := by omega
                simp (maxSteps := 10000000) [hr, hx, hy, hz, kindsS, Tryz.f68, okN_3, m1, m2, m4]
            · simp (maxSteps := 10000000) [hr, hx, hy, hz, kindsS, Tryz.f68, okN_3, m1]
          · have nk := okN_not (r := r) (x := x) (y := y) (z := z) k1 k2 k3
            by_cases k4 : kd = 4
            · subst k4
              simp (maxSteps := 10000000) [hr, hx, hy, hz, kindsS, Tryz.f68, nk]
            · by_cases k5 : kd < 1
              · simp (maxSteps := 10000000) [kindsS, Tryz.f68, nk, k5]
              · have k6 : 5 ≤ kd := by omega
                simp (maxSteps := 10000000) [kindsS, Tryz.f68, nk, k5, k6]
    · simp at h
  · simp at h
end Go.X
end

section
namespace Go.X
open Go.Proofs
attribute [local irreducible] Good
abbrev shI (kd r x y z : Int) (l : AV) : List AV := [.int .i64 kd, .int .i64 r, .int .i64 x, .int .i64 y, .int .i64 z, l]
theorem may_in {kd r x y z : Int} (h : OkN kd r x y z) : (kd = 1 ∧ x = 0 ∧ y = 0 ∧ z = 0 ∨ kd = 2 ∧ x = 0 ∧ y = 0 ∧ 0 < z ∨ kd = 3 ∧ 65536 ≤ x ∧ 65536 ≤ y ∧ 65536 ≤ z) ∧ 0 ≤ r ∧ r ≤ 274877906944 ∧ Size3 x y z := by
  obtain ⟨h1, h2, h3⟩ := h
  rcases h1 with ⟨rfl, a, b, c, d⟩ | ⟨rfl, a, b, c, d⟩ | ⟨rfl, a, b⟩
  · exact ⟨.inl ⟨rfl, b, c, d⟩, by omega, h2, h3⟩
  · exact ⟨.inr (.inl ⟨rfl, b, c, d⟩), by omega, h2, h3⟩
  · have := min3_le.1 b
    exact ⟨.inr (.inr ⟨rfl, this⟩), a, h2, h3⟩
end Go.X
end

section
namespace Go.X
open Go.Proofs
attribute [local irreducible] Good
end Go.X
end

section
namespace Go.X
open Go.Proofs
attribute [local irreducible] Good
end Go.X
end
