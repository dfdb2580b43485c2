/- Shapes without a list. -/
import Derived.Test.YtpojeehijepmhaaGreatGV
import Derived.Test.YtpojeehijepmhaaGreatGN

section
namespace Go.X
open Go.Proofs
attribute [local irreducible] Good
attribute [simp] Tryz.T_27
attribute [simp] Tryz.T_143
attribute [simp] Tryz.T_144
attribute [simp] Tryz.T_146
attribute [simp] Tryz.T_148
attribute [simp] Tryz.T_140
attribute [simp] Tryz.T_141
attribute [simp] Tryz.T_200
attribute [simp] Tryz.T_25
attribute [simp] Tryz.T_174
def May1 (r x y z : Int) : Prop := 0 < r ∧ x = 0 ∧ y = 0 ∧ z = 0
def May2 (r x y z : Int) : Prop := 0 < r ∧ x = 0 ∧ y = 0 ∧ 0 < z
def May3 (r x y z : Int) : Prop := 0 ≤ r ∧ 65536 ≤ min3 x y z
def Flat0 (x y z : Int) : Prop := x = 0 ∧ y = 0 ∧ z = 0
instance (r x y z : Int) : Decidable (May1 r x y z) := inferInstanceAs (Decidable (_ ∧ _))
instance (r x y z : Int) : Decidable (May2 r x y z) := inferInstanceAs (Decidable (_ ∧ _))
instance (r x y z : Int) : Decidable (May3 r x y z) := inferInstanceAs (Decidable (_ ∧ _))
instance (x y z : Int) : Decidable (Flat0 x y z) := inferInstanceAs (Decidable (_ ∧ _))
instance (a b c : Int) : Decidable (Size3 a b c) := inferInstanceAs (Decidable (_ ∧ _))
def MayN (kd r x y z : Int) : Prop := (kd = 1 ∧ May1 r x y z) ∨ (kd = 2 ∧ May2 r x y z) ∨ (kd = 3 ∧ May3 r x y z)
def OkN (kd r x y z : Int) : Prop := MayN kd r x y z ∧ r ≤ 274877906944 ∧ Size3 x y z
instance (kd r x y z : Int) : Decidable (MayN kd r x y z) := inferInstanceAs (Decidable (_ ∨ _))
instance (kd r x y z : Int) : Decidable (OkN kd r x y z) := inferInstanceAs (Decidable (_ ∧ _))
def cornF (x y z : Int) (j : Nat) : Int := if j % 3 = 0 then (if j / 3 % 2 = 0 then -x else x) else if j % 3 = 1 then (if j / 3 / 2 % 2 = 0 then -y else y) else (if j / 3 / 4 % 2 = 0 then -z else z)
def corN (kd : Int) : Nat := if kd = 1 then 1 else if kd = 2 then 2 else 8
def corF (kd x y z : Int) (j : Nat) : Int := if kd = 1 then 0 else if kd = 2 then (if j = 2 then -z else if j = 5 then z else 0) else cornF x y z j
abbrev VB (n c : Nat) (F : Nat → Int) : Blk := ⟨[.arr .i64 ((n + c) * 3) (cutL (n * 3) F)], 24⟩
theorem min3_le {x y z : Int} : 65536 ≤ min3 x y z ↔ 65536 ≤ x ∧ 65536 ≤ y ∧ 65536 ≤ z := by
  unfold min3; (repeat' split) <;> omega
theorem okN_1 {r x y z : Int} : OkN 1 r x y z ↔ May1 r x y z ∧ r ≤ 274877906944 ∧ Size3 x y z := by simp [OkN, MayN]
theorem okN_2 {r x y z : Int} : OkN 2 r x y z ↔ May2 r x y z ∧ r ≤ 274877906944 ∧ Size3 x y z := by simp [OkN, MayN]
theorem okN_3 {r x y z : Int} : OkN 3 r x y z ↔ May3 r x y z ∧ r ≤ 274877906944 ∧ Size3 x y z := by simp [OkN, MayN]
theorem okN_not {kd r x y z : Int} (h1 : ¬ kd = 1) (h2 : ¬ kd = 2) (h3 : ¬ kd = 3) : ¬ OkN kd r x y z := by simp [OkN, MayN, h1, h2, h3]
theorem vb_1 {F : Nat → Int} {ty : TypeId} (h0 : F 0 = 0) (h1 : F 1 = 0) (h2 : F 2 = 0) : (⟨[.arr .i64 3 fun i => ([0, 0, 0] : List Int)[i]?.getD 0], ty⟩ : Blk) = ⟨[.arr .i64 ((1 + 0) * 3) (cutL (1 * 3) F)], ty⟩ := by
  have e : (fun i => ([0, 0, 0] : List Int)[i]?.getD 0) = cutL (1 * 3) F := by
    funext i
    unfold cutL
    by_cases hi : i < 1 * 3
    · rw [if_pos hi]
      have : i = 0 ∨ i = 1 ∨ i = 2 := by omega
      rcases this with rfl | rfl | rfl
      · rw [h0]; rfl
      · rw [h1]; rfl
      · rw [h2]; rfl
    · rw [if_neg hi, List.getElem?_eq_none (by simp; omega)]; rfl
  rw [e]
theorem vb_2 {a0 a1 a2 a3 a4 a5 : Int} {F : Nat → Int} {ty : TypeId} (h0 : F 0 = a0) (h1 : F 1 = a1) (h2 : F 2 = a2) (h3 : F 3 = a3) (h4 : F 4 = a4) (h5 : F 5 = a5) : (⟨[.arr .i64 6 fun i => ([a0, a1, a2, a3, a4, a5] : List Int)[i]?.getD 0], ty⟩ : Blk) = ⟨[.arr .i64 ((2 + 0) * 3) (cutL (2 * 3) F)], ty⟩ := by
  have e : (fun i => ([a0, a1, a2, a3, a4, a5] : List Int)[i]?.getD 0) = cutL (2 * 3) F := by
    funext i
    unfold cutL
    by_cases hi : i < 2 * 3
    · rw [if_pos hi]
      have : i = 0 ∨ i = 1 ∨ i = 2 ∨ i = 3 ∨ i = 4 ∨ i = 5 := by omega
      rcases this with rfl | rfl | rfl | rfl | rfl | rfl
      · rw [h0]; rfl
      · rw [h1]; rfl
      · rw [h2]; rfl
      · rw [h3]; rfl
      · rw [h4]; rfl
      · rw [h5]; rfl
    · rw [if_neg hi, List.getElem?_eq_none (by simp; omega)]; rfl
  rw [e]
noncomputable def kin1S : List AV → PR
  | [.agg [.int .i64 _, .int .i64 _, .int .i64 x, .int .i64 y, .int .i64 z, .nilslice]] => open Classical in if InI x ∧ InI y ∧ InI z then .val (.bool (decide (Flat0 x y z))) else .fail
  | _ => .fail
@[simp] theorem kin1S_val {kd r x y z : Int} (h : InI x ∧ InI y ∧ InI z) : kin1S [.agg [.int .i64 kd, .int .i64 r, .int .i64 x, .int .i64 y, .int .i64 z, .nilslice]] = .val (.bool (decide (Flat0 x y z))) := if_pos h
theorem kin1_ok : SumOk Tryz.prog 159 (pureS kin1S) := by
  refine sum_fn (L := fun _ => none) (n := 1) (S := stOf []) drawS Tryz.T_ok (stOf_ok (by simp)) Tryz.func159 rfl (by kernel_rfl) (by kernel_rfl) ?_
    (by intro args v h; unfold kin1S at h; split at h <;> (try split at h) <;> simp at h)
  intro args v h
  unfold kin1S at h
  split at h
  · rename_i kd r x y z
    split at h
    · rename_i hc
      obtain ⟨hx, hy, hz⟩ := hc
      cases h
      refine ⟨by simp, by simp, by simp, ?_⟩
      by_cases h1 : x = 0
      · by_cases h2 : y = 0
        · by_cases h3 : z = 0
          · simp [Tryz.f159, Flat0, h1, h2, h3]
          · have bz : (z == 0) = false := by simpa using h3
            simp [Tryz.f159, Flat0, h1, h2, h3, bz]
        · have byy : (y == 0) = false := by simpa using h2
          simp [Tryz.f159, Flat0, h1, h2, byy]
      · have bx : (x == 0) = false := by simpa using h1
        simp [Tryz.f159, Flat0, h1, bx]
    · simp at h
  · simp at h
noncomputable def kin2S : Sum := fun args env _ => match args with
  | [.agg [.int .i64 _, .int .i64 r, .int .i64 x, .int .i64 y, .int .i64 z, .nilslice], .ptr p 0] => match env p with
    | some ⟨[.fn 159 []], _⟩ => open Classical in if InI r ∧ InI x ∧ InI y ∧ InI z then .val (.bool (decide (May1 r x y z))) [] [] else .fail
    | _ => .fail
  | _ => .fail
theorem kin2_ok : SumOk Tryz.prog 160 kin2S := by
  refine sum_read (L := fun _ => none) (n := 1) (S := stOf [(159, pureS kin1S)]) drawS Tryz.T_ok (stOf_ok (by simp [kin1_ok])) Tryz.func160 rfl (by kernel_rfl) (by kernel_rfl) ?_
  intro args env nxt h
  unfold kin2S at h ⊢
  split at h
  · rename_i kd r x y z p
    split at h
    · rename_i  ty0 m0
      split at h
      · rename_i hc
        obtain ⟨hr, hx, hy, hz⟩ := id hc
        refine ⟨_, _, _, .bool (decide (May1 r x y z)), laid1 [.agg [.int .i64 kd, .int .i64 r, .int .i64 x, .int .i64 y, .int .i64 z, .nilslice], .ptr 0 0] rfl (by simp) m0 rfl, by first | exact if_pos hc | (simp only [m0]; exact if_pos hc) | (simp [m0]; exact hc), by simp, by simp, ?_⟩
        have m1 : May1 r x y z ↔ 0 < r ∧ Flat0 x y z := Iff.rfl
        by_cases h1 : 0 < r
        · by_cases h2 : Flat0 x y z <;> simp [hx, hy, hz, Tryz.f160, m1, h1, h2]
        · simp [Tryz.f160, m1, h1]
      · simp at h
    · simp at h
  · simp at h
noncomputable def kin4S : List AV → PR
  | [.agg [.int .i64 _, .int .i64 r, .int .i64 x, .int .i64 y, .int .i64 z, .nilslice]] => open Classical in if InI r ∧ InI x ∧ InI y ∧ InI z then .val (.bool (decide (May2 r x y z))) else .fail
  | _ => .fail
@[simp] theorem kin4S_val {kd r x y z : Int} (h : InI r ∧ InI x ∧ InI y ∧ InI z) : kin4S [.agg [.int .i64 kd, .int .i64 r, .int .i64 x, .int .i64 y, .int .i64 z, .nilslice]] = .val (.bool (decide (May2 r x y z))) := if_pos h
theorem kin4_ok : SumOk Tryz.prog 162 (pureS kin4S) := by
  refine sum_fn (L := fun _ => none) (n := 1) (S := stOf []) drawS Tryz.T_ok (stOf_ok (by simp)) Tryz.func162 rfl (by kernel_rfl) (by kernel_rfl) ?_
    (by intro args v h; unfold kin4S at h; split at h <;> (try split at h) <;> simp at h)
  intro args v h
  unfold kin4S at h
  split at h
  · rename_i kd r x y z
    split at h
    · rename_i hc
      obtain ⟨hr, hx, hy, hz⟩ := hc
      cases h
      refine ⟨by simp, by simp, by simp, ?_⟩
      by_cases h0 : 0 < r
      · by_cases h1 : x = 0
        · by_cases h2 : y = 0
          · by_cases h3 : 0 < z
            · simp [Tryz.f162, May2, h0, h1, h2, h3]
            · simp [Tryz.f162, May2, h0, h1, h2, h3]
          · have byy : (y == 0) = false := by simpa using h2
            simp [Tryz.f162, May2, h0, h1, h2, byy]
        · have bx : (x == 0) = false := by simpa using h1
          simp [Tryz.f162, May2, h0, h1, bx]
      · simp [Tryz.f162, May2, h0]
    · simp at h
  · simp at h
noncomputable def kin6S : List AV → PR
  | [.agg [.int .i64 _, .int .i64 r, .int .i64 x, .int .i64 y, .int .i64 z, .nilslice]] => open Classical in if InI r ∧ InI x ∧ InI y ∧ InI z then .val (.bool (decide (May3 r x y z))) else .fail
  | _ => .fail
@[simp] theorem kin6S_val {kd r x y z : Int} (h : InI r ∧ InI x ∧ InI y ∧ InI z) : kin6S [.agg [.int .i64 kd, .int .i64 r, .int .i64 x, .int .i64 y, .int .i64 z, .nilslice]] = .val (.bool (decide (May3 r x y z))) := if_pos h
theorem kin6_ok : SumOk Tryz.prog 164 (pureS kin6S) := by
  refine sum_fn (L := fun _ => none) (n := 1) (S := stOf []) drawS Tryz.T_ok (stOf_ok (by simp)) Tryz.func164 rfl (by kernel_rfl) (by kernel_rfl) ?_
    (by intro args v h; unfold kin6S at h; split at h <;> (try split at h) <;> simp at h)
  intro args v h
  unfold kin6S at h
  split at h
  · rename_i kd r x y z
    split at h
    · rename_i hc
      obtain ⟨hr, hx, hy, hz⟩ := hc
      cases h
      refine ⟨by simp, by simp, by simp, ?_⟩
      by_cases h1 : 0 ≤ r
      · by_cases h2 : 65536 ≤ min3 x y z <;> simp [Tryz.f164, May3, min3_is, h1, h2]
      · simp [Tryz.f164, May3, h1]
    · simp at h
  · simp at h
noncomputable def kin7S : List AV → PR
  | [.agg [.int .i64 _, .int .i64 r, .int .i64 x, .int .i64 y, .int .i64 z, .nilslice]] => open Classical in if InI r ∧ InI x ∧ InI y ∧ InI z then .val (.bool false) else .fail
  | _ => .fail
@[simp] theorem kin7S_val {kd r x y z : Int} (h : InI r ∧ InI x ∧ InI y ∧ InI z) : kin7S [.agg [.int .i64 kd, .int .i64 r, .int .i64 x, .int .i64 y, .int .i64 z, .nilslice]] = .val (.bool false) := if_pos h
theorem kin7_ok : SumOk Tryz.prog 166 (pureS kin7S) := by
  refine sum_fn (L := fun _ => none) (n := 1) (S := stOf []) drawS Tryz.T_ok (stOf_ok (by simp)) Tryz.func166 rfl (by kernel_rfl) (by kernel_rfl) ?_
    (by intro args v h; unfold kin7S at h; split at h <;> (try split at h) <;> simp at h)
  intro args v h
  unfold kin7S at h
  split at h
  · rename_i kd r x y z
    split at h
    · rename_i hc
      obtain ⟨hr, hx, hy, hz⟩ := hc
      cases h
      refine ⟨by simp, by simp, by simp, ?_⟩
      by_cases h0 : 0 ≤ r
      · by_cases h1 : x = 0
        · by_cases h2 : y = 0
          · by_cases h3 : z = 0
            · simp [Tryz.f166, h0, h1, h2, h3]
            · have bz : (z == 0) = false := by simpa using h3
              simp [Tryz.f166, h0, h1, h2, bz]
          · have byy : (y == 0) = false := by simpa using h2
            simp [Tryz.f166, h0, h1, byy]
        · have bx : (x == 0) = false := by simpa using h1
          simp [Tryz.f166, h0, bx]
      · simp [Tryz.f166, h0]
    · simp at h
  · simp at h
noncomputable def small9S : List AV → PR
  | [.agg [.int .i64 x, .int .i64 y, .int .i64 z]] => open Classical in if InI x ∧ InI y ∧ InI z then .val (.bool (decide (Size3 x y z))) else .fail
  | _ => .fail
@[simp] theorem small9S_val {x y z : Int} (h : InI x ∧ InI y ∧ InI z) : small9S [.agg [.int .i64 x, .int .i64 y, .int .i64 z]] = .val (.bool (decide (Size3 x y z))) := if_pos h
theorem small9_ok : SumOk Tryz.prog 110 (pureS small9S) := by
  refine sum_fn (L := fun _ => none) (n := 1) (S := stOf []) drawS Tryz.T_ok (stOf_ok (by simp)) Tryz.func110 rfl (by kernel_rfl) (by kernel_rfl) ?_
    (by intro args v h; unfold small9S at h; split at h <;> (try split at h) <;> simp at h)
  intro args v h
  unfold small9S at h
  split at h
  · rename_i x y z
    split at h
    · rename_i hc
      obtain ⟨hx, hy, hz⟩ := hc
      cases h
      refine ⟨by simp, by simp, by simp, ?_⟩
      by_cases sz : Size3 x y z
      · have sz2 := size_iff.1 sz
        have k3 : max3 x y z ≤ 274877906944 := by omega
        have k4 : -274877906944 ≤ min3 x y z := by omega
        simp [Tryz.f110, max3_is, min3_is, sz, k3, k4]
      · have sz2 : 274877906944 < max3 x y z ∨ min3 x y z < -274877906944 := by
          rw [size_iff] at sz; omega
        rcases Decidable.em (274877906944 < max3 x y z) with k1 | k1
        · have k3 : ¬ max3 x y z ≤ 274877906944 := by omega
          simp [Tryz.f110, max3_is, sz, k3]
        · have k2 := sz2.resolve_left k1
          have k3 : max3 x y z ≤ 274877906944 := by omega
          have k4 : ¬ -274877906944 ≤ min3 x y z := by omega
          simp [Tryz.f110, max3_is, min3_is, sz, k3, k4]
    · simp at h
  · simp at h
noncomputable def fineNS : List AV → PR
  | [.nilslice] => .val (.bool true)
  | _ => .fail
@[simp] theorem fineNS_val : fineNS [.nilslice] = .val (.bool true) := rfl
theorem fineN_ok : SumOk Tryz.prog 186 (pureS fineNS) := by
  refine sum_fn (L := fun _ => none) (n := 1) (S := stOf []) drawS Tryz.T_ok (stOf_ok (by simp)) Tryz.func186 rfl (by kernel_rfl) (by kernel_rfl) ?_
    (by intro args v h; unfold fineNS at h; split at h <;> (try split at h) <;> simp at h)
  intro args v h
  unfold fineNS at h
  split at h
  · skip
    cases h
    refine ⟨by simp, by simp, by simp, ?_⟩
    simp [Tryz.f186]
  · simp at h
noncomputable def spreadNS : List AV → PR
  | [.nilslice] => .val (.tup [.nilslice, .int .i64 0])
  | _ => .fail
theorem spreadN_ok : SumOk Tryz.prog 170 (pureS spreadNS) := by
  refine sum_read (L := fun _ => none) (n := 2) (S := stOf [(186, pureS fineNS)]) drawS Tryz.T_ok (stOf_ok (by simp [fineN_ok])) Tryz.func170 rfl (by kernel_rfl) (by kernel_rfl) ?_
  intro args env nxt h
  unfold pureS spreadNS at h ⊢
  split at h
  · rename_i v hv
    split at hv
    · cases hv
      refine ⟨[.nilslice], [], [], .tup [.nilslice, .int .i64 0], ⟨rfl, rfl, by simp, by simp, by simp, by simp⟩, rfl, rfl, by simp, ?_⟩
      simp [Tryz.f170]
    · simp at hv
  · rename_i v hv
    split at hv <;> simp at hv
  · simp at h
noncomputable def rankNS : List AV → PR
  | [.nilslice] => .val (.tup [.int .i64 (-1), .int .i64 0])
  | _ => .fail
@[simp] theorem rankNS_val : rankNS [.nilslice] = .val (.tup [.int .i64 (-1), .int .i64 0]) := rfl
theorem rankN_ok : SumOk Tryz.prog 112 (pureS rankNS) := by
  refine sum_fn (L := fun _ => none) (n := 1) (S := stOf [(170, pureS spreadNS)]) drawS Tryz.T_ok (stOf_ok (by simp [spreadN_ok])) Tryz.func112 rfl (by kernel_rfl) (by kernel_rfl) ?_
    (by intro args v h; unfold rankNS at h; split at h <;> (try split at h) <;> simp at h)
  intro args v h
  unfold rankNS at h
  split at h
  · skip
    cases h
    refine ⟨by simp, by simp, by simp, ?_⟩
    simp [Tryz.f112, spreadNS]
  · simp at h
noncomputable def kindsS : Sum := fun args _ nxt => match args with
  | [] => .val (.agg [.nilfn, .nilfn, .fn 160 [.ptr nxt 0], .fn 161 [], .fn 162 [], .fn 163 [], .fn 164 [], .fn 165 [], .fn 166 [], .fn 167 []]) [] [⟨[.fn 159 []], 140⟩]
  | _ => .fail
theorem kinds_ok : SumOk Tryz.prog 109 kindsS := by
  refine sum_mem (L := fun _ => none) (n := 1) (S := stOf []) drawS Tryz.T_ok (stOf_ok (by simp)) Tryz.func109 rfl (by kernel_rfl) (by kernel_rfl) ?_
  intro args env nxt h
  unfold kindsS at h ⊢
  split at h
  · refine ⟨[], [], [], ⟨rfl, rfl, by simp, by simp, by simp, by simp⟩, ?_⟩
    simp [Tryz.f109]
    exact ⟨[1], none, told_one (by simp) rfl (by simp) (by simp) (by simp [AV.ren, renL, glob]) (by simp) (by simp)⟩
  · simp at h
noncomputable def corn1S : List AV → PR
  | [.int .i64 i, .int .i64 w] => open Classical in if InI w ∧ 0 ≤ i ∧ i < 8 ∧ InI (-w) then .val (.int .i64 (if i % 2 = 0 then -w else w)) else .fail
  | _ => .fail
@[simp] theorem corn1S_val {i w : Int} (h : InI w ∧ 0 ≤ i ∧ i < 8 ∧ InI (-w)) : corn1S [.int .i64 i, .int .i64 w] = .val (.int .i64 (if i % 2 = 0 then -w else w)) := if_pos h
theorem corn1_ok : SumOk Tryz.prog 184 (pureS corn1S) := by
  refine sum_fn (L := fun _ => none) (n := 1) (S := stOf []) drawS Tryz.T_ok (stOf_ok (by simp)) Tryz.func184 rfl (by kernel_rfl) (by kernel_rfl) ?_
    (by intro args v h; unfold corn1S at h; split at h <;> (try split at h) <;> simp at h)
  intro args v h
  unfold corn1S at h
  split at h
  · rename_i i w
    split at h
    · rename_i hc
      obtain ⟨hw, e0, e1, e2⟩ := hc
      cases h
      refine ⟨by simp, by simp, by simp, ?_⟩
      have t1 : i.tmod 2 = i % 2 := Int.tmod_eq_emod_of_nonneg e0
      have w1 : IntKind.i64.wrap (-w) = -w := wrap_i64_in e2.1 e2.2
      by_cases h1 : i % 2 = 0
      · simp [Tryz.f184, t1, w1, h1]
      · simp [Tryz.f184, t1, h1]
    · simp at h
  · simp at h
noncomputable def checkNS : List AV → PR
  | [.agg [.int .i64 kd, .int .i64 r, .int .i64 x, .int .i64 y, .int .i64 z, .nilslice]] => open Classical in if InI kd ∧ InI r ∧ InI x ∧ InI y ∧ InI z then .val (.int .i64 (if OkN kd r x y z then 0 else 2)) else .fail
  | _ => .fail
@[simp] theorem checkNS_val {kd r x y z : Int} (h : InI kd ∧ InI r ∧ InI x ∧ InI y ∧ InI z) : checkNS [.agg [.int .i64 kd, .int .i64 r, .int .i64 x, .int .i64 y, .int .i64 z, .nilslice]] = .val (.int .i64 (if OkN kd r x y z then 0 else 2)) := if_pos h
set_option maxHeartbeats 40000000 in
theorem checkN_ok : SumOk Tryz.prog 49 (pureS checkNS) := by
  refine sum_fn (L := fun _ => none) (n := 2) (S := stOf [(109, kindsS), (160, kin2S), (162, pureS kin4S), (164, pureS kin6S), (166, pureS kin7S), (110, pureS small9S), (112, pureS rankNS)]) drawS Tryz.T_ok (stOf_ok (by simp [kinds_ok, kin2_ok, kin4_ok, kin6_ok, kin7_ok, small9_ok, rankN_ok])) Tryz.func49 rfl (by kernel_rfl) (by kernel_rfl) ?_
    (by intro args v h; unfold checkNS at h; split at h <;> (try split at h) <;> simp at h)
  intro args v h
  unfold checkNS at h
  split at h
  · rename_i kd r x y z
    split at h
    · rename_i hc
      obtain ⟨hkd, hr, hx, hy, hz⟩ := hc
      cases h
      refine ⟨by simp, by simp, by simp, ?_⟩
      by_cases k1 : kd = 1
      · subst k1
        by_cases m1 : May1 r x y z
        · by_cases m2 : r ≤ 274877906944
          · have m4 : ¬ 274877906944 < r := by omega
            by_cases m3 : Size3 x y z <;> simp (maxSteps := 10000000) [hr, hx, hy, hz, kindsS, kin2S, Tryz.f49, okN_1, m1, m2, m3, m4]
          · have m4 : 274877906944 < r := by omega
            simp (maxSteps := 10000000) [hr, hx, hy, hz, kindsS, kin2S, Tryz.f49, okN_1, m1, m2, m4]
        · simp (maxSteps := 10000000) [hr, hx, hy, hz, kindsS, kin2S, Tryz.f49, okN_1, m1]
      · by_cases k2 : kd = 2
        · subst k2
          by_cases m1 : May2 r x y z
          · by_cases m2 : r ≤ 274877906944
            · have m4 : ¬ 274877906944 < r := by omega
              by_cases m3 : Size3 x y z <;> simp (maxSteps := 10000000) [hr, hx, hy, hz, kindsS, Tryz.f49, okN_2, m1, m2, m3, m4]
            · have m4 : 274877906944 < r := by omega
              simp (maxSteps := 10000000) [hr, hx, hy, hz, kindsS, Tryz.f49, okN_2, m1, m2, m4]
          · simp (maxSteps := 10000000) [hr, hx, hy, hz, kindsS, Tryz.f49, okN_2, m1]
        · by_cases k3 : kd = 3
          · subst k3
            by_cases m1 : May3 r x y z
            · by_cases m2 : r ≤ 274877906944
              · have m4 : ¬ 274877906944 < r := by omega
                by_cases m3 : Size3 x y z <;> simp (maxSteps := 10000000) [hr, hx, hy, hz, kindsS, Tryz.f49, okN_3, m1, m2, m3, m4]
              · have m4 : 274877906944 < r := by omega
                simp (maxSteps := 10000000) [hr, hx, hy, hz, kindsS, Tryz.f49, okN_3, m1, m2, m4]
            · simp (maxSteps := 10000000) [hr, hx, hy, hz, kindsS, Tryz.f49, okN_3, m1]
          · have nk := okN_not (r := r) (x := x) (y := y) (z := z) k1 k2 k3
            by_cases k4 : kd = 4
            · subst k4
              simp (maxSteps := 10000000) [hr, hx, hy, hz, kindsS, Tryz.f49, nk]
            · by_cases k5 : kd < 1
              · simp (maxSteps := 10000000) [kindsS, Tryz.f49, nk, k5]
              · have k6 : 5 ≤ kd := by omega
                simp (maxSteps := 10000000) [kindsS, Tryz.f49, nk, k5, k6]
    · simp at h
  · simp at h
end Go.X
end

section
namespace Go.X
open Go.Proofs
attribute [local irreducible] Good
abbrev shI (kd r x y z : Int) (l : AV) : List AV := [.int .i64 kd, .int .i64 r, .int .i64 x, .int .i64 y, .int .i64 z, l]
noncomputable def cornersS : Sum := fun args _ nxt => match args with
  | [.agg [.int .i64 _, .int .i64 _, .int .i64 x, .int .i64 y, .int .i64 z, .nilslice]] => open Classical in if InI (-x) ∧ InI (-y) ∧ InI (-z) ∧ InI x ∧ InI y ∧ InI z then .any fun c => .val (.slice nxt 0 8 (8 + c)) [] [VB 8 c (cornF x y z)] else .fail
  | _ => .fail
noncomputable def cornersLoop : Code := match Tryz.f165.body with | some (.seq _ (.seq _ (.seq _ (.seq (.seq _ (.block _ (.loop c))) _)))) => c | _ => .skip
def cornersL (i : Nat) : Option DM := if i = 6 then some (.quiet 23) else none
noncomputable def cornersP (kd r x y z : Int) (l : AV) (i : Option AV) : List (Option AV) := [some (.agg (shI kd r x y z .nilslice)), some (.ptr 0 0), some .nilslice, some l, some (.fn 184 []), none, i, none, none, none, none, none, none, none, none, none, none, none, none, none, none, none, none, none, none, none, none, none, none, none, none, none, none, none, none]
theorem corn_get {x y z : Int} {i : Nat} : cornF x y z (i * 3) = (if i % 2 = 0 then -x else x) ∧ cornF x y z (i * 3 + 1) = (if i / 2 % 2 = 0 then -y else y) ∧ cornF x y z (i * 3 + 2) = (if i / 4 % 2 = 0 then -z else z) := by
  have a0 : i * 3 % 3 = 0 := by omega
  have a1 : (i * 3 + 1) % 3 = 1 := by omega
  have a2 : (i * 3 + 2) % 3 = 2 := by omega
  have b0 : i * 3 / 3 = i := by omega
  have b1 : (i * 3 + 1) / 3 = i := by omega
  have b2 : (i * 3 + 2) / 3 = i := by omega
  refine ⟨?_, ?_, ?_⟩ <;> simp [cornF, a0, a1, a2, b0, b1, b2]
set_option maxHeartbeats 4000000 in
theorem corners_loop {kd r x y z : Int} (n1 : InI (-x)) (n2 : InI (-y)) (n3 : InI (-z)) (hx : InI x) (hy : InI y) (hz : InI z) {Q : Ex → St → Prop}
    (hQ : ∀ (ts : List AV) (m : List Blk) (l : AV), Fits (cornersP kd r x y z l none) ts → LA m 3 24 l 8 (cornF x y z) → Q (.exit 0) ⟨ts, m, []⟩)
    {ts : List AV} {m0 : List Blk} (hm0 : m0[0]? = some ⟨shI kd r x y z .nilslice, 27⟩) (h0 : Fits (cornersP kd r x y z .nilslice (some (.int .i64 0))) ts) :
    Good (loopA (exec Tryz.T (stOf [(184, pureS corn1S)]) cornersL 10 cornersLoop) 10 ⟨ts, m0, []⟩) Q := by
  refine loop_rule (fun k s => ∃ (i : Nat) (l : AV), i + k = 8 ∧ Fits (cornersP kd r x y z l (some (.int .i64 i))) s.ts ∧ s.m[0]? = some ⟨shI kd r x y z .nilslice, 27⟩ ∧ LA s.m 3 24 l i (cornF x y z) ∧ s.df = []) ?_ 10 8 _ (by omega)
    ⟨0, .nilslice, by omega, h0, hm0, LA.nil, rfl⟩
  rintro k ⟨ts, m, df⟩ ⟨i, l, hik, hfit, hm, hl, hd⟩
  simp only at hfit hm hl hd
  subst hd
  obtain ⟨f, rfl⟩ := fits_of hfit 0
  by_cases hi : i < 8
  · have hi1 : (i : Int) < 8 := by omega
    have hi2 : (0 : Int) ≤ i := by omega
    have w3 : IntKind.i64.wrap ((i : Int) + 1) = i + 1 := wrap_i64_in (by omega) (by omega)
    have w2 : IntKind.i64.wrap ((i : Int) / 2) = (i : Int) / 2 := wrap_i64_in (by omega) (by omega)
    have w4 : IntKind.i64.wrap ((i : Int) / 4) = (i : Int) / 4 := wrap_i64_in (by omega) (by omega)
    have q2 : (0 : Int) ≤ (i : Int) / 2 := by omega
    have q2b : (i : Int) / 2 < 8 := by omega
    have q4 : (0 : Int) ≤ (i : Int) / 4 := by omega
    have q4b : (i : Int) / 4 < 8 := by omega
    have d1 : ((i : Int) % 2 = 0) ↔ (i % 2 = 0) := by omega
    have d2 : ((i : Int) / 2 % 2 = 0) ↔ (i / 2 % 2 = 0) := by omega
    have d4 : ((i : Int) / 4 % 2 = 0) ↔ (i / 4 % 2 = 0) := by omega
    have hlen : 0 < m.length := (List.getElem?_eq_some_iff.1 hm).1
    have g3 : (∀ q, q ∈ refs l → q < m.length) = True := eq_true hl.ref.2.2
    have N0 : ∀ (h : 0 < m.length), m[0]'h = ⟨shI kd r x y z .nilslice, 27⟩ := fun h => Option.some.inj ((List.getElem?_eq_getElem h).symm.trans hm)
    have g0 := hl.ref
    have L0 : ∀ l, (m ++ l)[0]? = some ⟨shI kd r x y z .nilslice, 27⟩ := fun l => by rw [List.getElem?_append_left (List.getElem?_eq_some_iff.1 hm).1]; exact hm
    simp [-ofOR, ofOR_val, cornersLoop, cornersP, cornersL, Tryz.f165, hi1, hi2, w2, w4, q2, q2b, q4, q4b, d1, d2, d4, hlen, g3, N0, n1, n2, n3, hx, hy, hz]
    intro c
    simp only [good_bind, good_unblock]
    refine append_good (n := i) (n' := 1) (o' := 0) (F := cornF x y z) (g := fun j => [if i % 2 = 0 then -x else x, if i / 2 % 2 = 0 then -y else y, if i / 4 % 2 = 0 then -z else z][j]?.getD 0) Tryz.T_25 rfl (by decide) rfl (by simp) (hl.keep fun q hq => List.getElem?_append_left (hl.ref.2.2 q hq)) (by simp) rfl (by decide) (by omega) ?_ c
    intro m' v hk hlen2 hla
    simp [w3]
    refine ⟨k - 1, by omega, i + 1, by omega, v, ⟨rfl, by omega⟩, ?_, ?_⟩
    · rw [hk 0 (by simp) (hl.not_ref hm (show (27 : TypeId) ≠ 24 by decide)), List.getElem?_append_left hlen]; exact hm
    · refine hla.congr fun j hj => ?_
      obtain ⟨c0, c1, c2⟩ := corn_get (x := x) (y := y) (z := z) (i := i)
      by_cases hj0 : j < i * 3
      · rw [if_pos hj0]
      · rw [if_neg hj0, Nat.zero_add]
        have : j = i * 3 ∨ j = i * 3 + 1 ∨ j = i * 3 + 2 := by omega
        rcases this with rfl | rfl | rfl
        · rw [c0, Nat.sub_self]; rfl
        · rw [c1, show i * 3 + 1 - i * 3 = 1 from by omega]; rfl
        · rw [c2, show i * 3 + 2 - i * 3 = 2 from by omega]; rfl
  · have : i = 8 := by omega
    subst this
    simp [cornersLoop, cornersP, Tryz.f165]
    exact hQ _ _ _ (by simp [cornersP]) hl
theorem corners_ok : SumOk Tryz.prog 165 cornersS := by
  refine sum_mem (L := cornersL) (n := 10) (S := stOf [(184, pureS corn1S)]) drawS Tryz.T_ok (stOf_ok (by simp [corn1_ok])) Tryz.func165 rfl (by kernel_rfl) (by kernel_rfl) ?_
  intro args env nxt h
  unfold cornersS at h ⊢
  split at h
  · rename_i kd r x y z
    split at h
    · rename_i hcond
      obtain ⟨n1, n2, n3, hx, hy, hz⟩ := id hcond
      refine ⟨[.agg [.int .i64 kd, .int .i64 r, .int .i64 x, .int .i64 y, .int .i64 z, .nilslice]], [], [], ⟨rfl, rfl, by simp, by simp, by simp, by simp⟩, ?_⟩
      simp [-loopA_succ, Tryz.f165]
      simp only [good_bind, good_unblock]
      refine corners_loop (kd := kd) (r := r) n1 n2 n3 hx hy hz (fun ts m l hfit hla => ?_) rfl ?_
      · obtain ⟨f, rfl⟩ := fits_of hfit 0
        rcases hla with ⟨-, h8⟩ | ⟨p, c, rfl, hp⟩
        · omega
        · simp [cornersP, hcond]
          refine ⟨[p], none, .inr ⟨_, ⟨c, rfl⟩, ?_⟩⟩
          exact told_one (by simp) hp (by simp) (by simp) (by simp [AV.ren, glob]) (by simp) (by simp)
      · simp [cornersP]
    · simp at h
  · simp at h
noncomputable def kin3S : Sum := fun args _ nxt => match args with
  | [.agg [.int .i64 _, .int .i64 _, .int .i64 _, .int .i64 _, .int .i64 _, .nilslice]] => .val (.slice nxt 0 1 1) [] [VB 1 0 (fun _ => 0)]
  | _ => .fail
theorem kin3_ok : SumOk Tryz.prog 161 kin3S := by
  refine sum_mem (L := fun _ => none) (n := 1) (S := stOf []) drawS Tryz.T_ok (stOf_ok (by simp)) Tryz.func161 rfl (by kernel_rfl) (by kernel_rfl) ?_
  intro args env nxt h
  unfold kin3S at h ⊢
  split at h
  · rename_i kd r x y z
    refine ⟨[.agg [.int .i64 kd, .int .i64 r, .int .i64 x, .int .i64 y, .int .i64 z, .nilslice]], [], [], ⟨rfl, rfl, by simp, by simp, by simp, by simp⟩, ?_⟩
    simp [Tryz.f161]
    rw [vb_1 (F := fun _ => 0) rfl rfl rfl]
    exact ⟨[1], none, told_one (by simp) rfl (by simp) (by simp) (by simp [AV.ren, glob]) (by simp) (by simp)⟩
  · simp at h
noncomputable def kin5S : Sum := fun args _ nxt => match args with
  | [.agg [.int .i64 _, .int .i64 _, .int .i64 _, .int .i64 _, .int .i64 z, .nilslice]] => open Classical in if InI (-z) ∧ InI z then .val (.slice nxt 0 2 2) [] [VB 2 0 (corF 2 0 0 z)] else .fail
  | _ => .fail
theorem kin5_ok : SumOk Tryz.prog 163 kin5S := by
  refine sum_mem (L := fun _ => none) (n := 1) (S := stOf []) drawS Tryz.T_ok (stOf_ok (by simp)) Tryz.func163 rfl (by kernel_rfl) (by kernel_rfl) ?_
  intro args env nxt h
  unfold kin5S at h ⊢
  split at h
  · rename_i kd r x y z
    split at h
    · rename_i hcond
      obtain ⟨n1, hz⟩ := id hcond
      have w1 : IntKind.i64.wrap (-z) = -z := wrap_i64_in n1.1 n1.2
      refine ⟨[.agg [.int .i64 kd, .int .i64 r, .int .i64 x, .int .i64 y, .int .i64 z, .nilslice]], [], [], ⟨rfl, rfl, by simp, by simp, by simp, by simp⟩, ?_⟩
      simp [Tryz.f163, w1, hcond]
      rw [vb_2 (F := corF 2 0 0 z) (by simp [corF]) (by simp [corF]) (by simp [corF]) (by simp [corF]) (by simp [corF]) (by simp [corF])]
      exact ⟨[1], none, told_one (by simp) rfl (by simp) (by simp) (by simp [AV.ren, glob]) (by simp) (by simp)⟩
    · simp at h
  · simp at h
theorem may_in {kd r x y z : Int} (h : OkN kd r x y z) : (kd = 1 ∧ x = 0 ∧ y = 0 ∧ z = 0 ∨ kd = 2 ∧ x = 0 ∧ y = 0 ∧ 0 < z ∨ kd = 3 ∧ 65536 ≤ x ∧ 65536 ≤ y ∧ 65536 ≤ z) ∧ 0 ≤ r ∧ r ≤ 274877906944 ∧ Size3 x y z := by
  obtain ⟨h1, h2, h3⟩ := h
  rcases h1 with ⟨rfl, a, b, c, d⟩ | ⟨rfl, a, b, c, d⟩ | ⟨rfl, a, b⟩
  · exact ⟨.inl ⟨rfl, b, c, d⟩, by omega, h2, h3⟩
  · exact ⟨.inr (.inl ⟨rfl, b, c, d⟩), by omega, h2, h3⟩
  · have := min3_le.1 b
    exact ⟨.inr (.inr ⟨rfl, this⟩), a, h2, h3⟩
theorem size_neg {x y z : Int} (h : Size3 x y z) : InI (-x) ∧ InI (-y) ∧ InI (-z) ∧ InI x ∧ InI y ∧ InI z := by unfold Size3 at h; unfold InI; omega
noncomputable def coreNS : Sum := fun args _ nxt => match args with
  | [.agg [.int .i64 kd, .int .i64 r, .int .i64 x, .int .i64 y, .int .i64 z, .nilslice]] => open Classical in if InI kd ∧ InI r ∧ InI x ∧ InI y ∧ InI z then
      (if OkN kd r x y z then .any fun c => .val (.tup [.slice nxt 0 (corN kd) (corN kd + c), .int .i64 0]) [] [VB (corN kd) c (corF kd x y z)] else .val (.tup [.nilslice, .int .i64 2]) [] []) else .fail
  | _ => .fail
def coreL (i : Nat) : Option DM := if i = 4 then some (.quiet 6) else none
set_option maxHeartbeats 4000000 in
theorem coreN_ok : SumOk Tryz.prog 67 coreNS := by
  refine sum_mem (L := coreL) (n := 1) (S := stOf [(49, pureS checkNS), (109, kindsS), (161, kin3S), (163, kin5S), (165, cornersS)]) drawS Tryz.T_ok (stOf_ok (by simp [checkN_ok, kinds_ok, kin3_ok, kin5_ok, corners_ok])) Tryz.func67 rfl (by kernel_rfl) (by kernel_rfl) ?_
  intro args env nxt h
  unfold coreNS at h ⊢
  split at h
  · rename_i kd r x y z
    split at h
    · rename_i hcond
      obtain ⟨hk, hr, hx, hy, hz⟩ := id hcond
      refine ⟨[.agg [.int .i64 kd, .int .i64 r, .int .i64 x, .int .i64 y, .int .i64 z, .nilslice]], [], [], ⟨rfl, rfl, by simp, by simp, by simp, by simp⟩, ?_⟩
      by_cases ok : OkN kd r x y z
      · obtain ⟨hm, -, -, hs⟩ := may_in ok
        have sn := size_neg hs
        rcases hm with ⟨rfl, -⟩ | ⟨rfl, -⟩ | ⟨rfl, -⟩
        · simp [Tryz.f67, coreL, kindsS, kin3S, hk, hr, hx, hy, hz, ok]
          have e1 : corF 1 x y z = fun _ => 0 := by funext j; simp [corF]
          have c1 : corN 1 = 1 := by simp [corN]
          refine ⟨[2], none, .inr ⟨_, ⟨0, rfl⟩, ?_⟩⟩
          rw [e1, c1]
          exact told_one (by simp) rfl (by simp) (by simp) (by simp [AV.ren, renL, glob]) (by simp) (by simp)
        · simp [Tryz.f67, coreL, kindsS, kin5S, hk, hr, hx, hy, hz, ok, sn]
          have e1 : corF 2 x y z = corF 2 0 0 z := by funext j; simp [corF]
          have c1 : corN 2 = 2 := by simp [corN]
          refine ⟨[2], none, .inr ⟨_, ⟨0, rfl⟩, ?_⟩⟩
          rw [e1, c1]
          exact told_one (by simp) rfl (by simp) (by simp) (by simp [AV.ren, renL, glob]) (by simp) (by simp)
        · simp [Tryz.f67, coreL, kindsS, cornersS, hk, hr, hx, hy, hz, ok, sn]
          intro n
          have e1 : corF 3 x y z = cornF x y z := by funext j; simp [corF]
          have c1 : corN 3 = 8 := by simp [corN]
          refine ⟨[2], none, .inr ⟨_, ⟨n, rfl⟩, ?_⟩⟩
          rw [e1, c1]
          exact told_one (by simp) rfl (by simp) (by simp) (by simp [AV.ren, renL, glob]) (by simp) (by simp)
      · simp [Tryz.f67, hk, hr, hx, hy, hz, ok]
        exact ⟨[], none, told_none (by simp) (by simp) (by simp) (by simp)⟩
    · simp at h
  · simp at h
end Go.X
end

section
namespace Go.X
open Go.Proofs
attribute [local irreducible] Good
theorem loadB_VB {fs : List (Nat × Nat × Bool)} {z : AV} {q : Bool} {n c o k : Nat} {F : Nat → Int} {t : TypeId} (h : o + 3 ≤ k) (hk : k ≤ n * 3) :
    loadB ⟨.struct fs, 3, z, q⟩ ⟨[.arr .i64 ((n + c) * 3) (cutL k F)], t⟩ o = some (.agg [.int .i64 (F o), .int .i64 (F (o + 1)), .int .i64 (F (o + 2))]) := by
  have e0 : cutL k F o = F o := cutL_lt (by omega)
  have e1 : cutL k F (o + 1) = F (o + 1) := cutL_lt (by omega)
  have e2 : cutL k F (o + 2) = F (o + 2) := cutL_lt (by omega)
  have hle : o + 3 ≤ (n + c) * 3 := by omega
  simp only [loadB, TK.agg, if_true, readRow]
  by_cases h0 : o = 0 ∧ 3 = (n + c) * 3
  · rw [if_pos h0]
    obtain ⟨rfl, h3⟩ := h0
    rw [← h3]
    simp [asAgg, explode, List.range, List.range.loop] at *
    exact ⟨e0, e1, e2⟩
  · rw [if_neg h0, if_pos hle]
    simp [asAgg, explode, List.range, List.range.loop]
    exact ⟨e0, e1, e2⟩
noncomputable def halfNS : List AV → PR
  | [.agg [.int .i64 kd, .int .i64 r, .int .i64 x, .int .i64 y, .int .i64 z, .nilslice]] => open Classical in if InI kd ∧ InI r ∧ InI x ∧ InI y ∧ InI z then .val (if OkN kd r x y z then .tup [.agg [.int .i64 (x + r), .int .i64 (y + r), .int .i64 (z + r)], .int .i64 0] else .tup [.agg [.int .i64 0, .int .i64 0, .int .i64 0], .int .i64 2]) else .fail
  | _ => .fail
@[simp] theorem halfNS_val {kd r x y z : Int} (h : InI kd ∧ InI r ∧ InI x ∧ InI y ∧ InI z) : halfNS [.agg [.int .i64 kd, .int .i64 r, .int .i64 x, .int .i64 y, .int .i64 z, .nilslice]] = .val (if OkN kd r x y z then .tup [.agg [.int .i64 (x + r), .int .i64 (y + r), .int .i64 (z + r)], .int .i64 0] else .tup [.agg [.int .i64 0, .int .i64 0, .int .i64 0], .int .i64 2]) := if_pos h
set_option maxHeartbeats 400000000 in
set_option maxRecDepth 100000 in
theorem halfN_ok : SumOk Tryz.prog 32 (pureS halfNS) := by
  refine sum_fn (L := fun _ => none) (n := 10) (S := stOf [(67, coreNS), (68, pureS vAddS)]) drawS Tryz.T_ok (stOf_ok (by simp [coreN_ok, vAdd_ok])) Tryz.func32 rfl (by kernel_rfl) (by kernel_rfl) ?_
    (by intro args v h; unfold halfNS at h; split at h <;> (try split at h) <;> simp at h)
  intro args v h
  unfold halfNS at h
  split at h
  · rename_i kd r x y z
    split at h
    · rename_i hc
      obtain ⟨hkd, hr, hx, hy, hz⟩ := hc
      cases h
      refine ⟨by simp, by (split <;> simp), by (split <;> simp), ?_⟩
      by_cases ok : OkN kd r x y z
      · obtain ⟨hm, r0, r1, hs⟩ := may_in ok
        have sn := size_neg hs
        obtain ⟨sx, sy, sz⟩ := id hs
        have ar : clampI r = r := clampI_self hr
        have ax : clampI (x + r) = x + r := clampI_self (by unfold InI; omega)
        have ay : clampI (y + r) = y + r := clampI_self (by unfold InI; omega)
        have az : clampI (z + r) = z + r := clampI_self (by unfold InI; omega)
        have wx : IntKind.i64.wrap (-x) = -x := wrap_i64_in sn.1.1 sn.1.2
        have wy : IntKind.i64.wrap (-y) = -y := wrap_i64_in sn.2.1.1 sn.2.1.2
        have wz : IntKind.i64.wrap (-z) = -z := wrap_i64_in sn.2.2.1.1 sn.2.2.1.2
        have vx : IntKind.i64.wrap x = x := wrap_i64_in hx.1 hx.2
        have vy : IntKind.i64.wrap y = y := wrap_i64_in hy.1 hy.2
        have vz : IntKind.i64.wrap z = z := wrap_i64_in hz.1 hz.2
        rcases hm with ⟨rfl, rfl, rfl, rfl⟩ | ⟨rfl, rfl, rfl, z0⟩ | ⟨rfl, x0, y0, z0⟩
        · simp (maxSteps := 10000000) [hkd, hr, hx, coreNS, ↓loadB_VB, Tryz.f32, ok, corN, corF, ar]
        · have pz1 : 0 < z := by omega
          have pz2 : ¬ z < 0 := by omega
          have pz3 : ¬ z < -z := by omega
          have pz4 : -z < z := by omega
          simp (maxSteps := 10000000) [hkd, hx, coreNS, ↓loadB_VB, Tryz.f32, ok, corN, corF, wz, vz, pz1, pz2, pz3, ar, az, hz, hr]
        · have px1 : 0 < x := by omega
          have px2 : ¬ x < 0 := by omega
          have px3 : ¬ x < -x := by omega
          have px4 : -x < x := by omega
          have py1 : 0 < y := by omega
          have py2 : ¬ y < 0 := by omega
          have py3 : ¬ y < -y := by omega
          have py4 : -y < y := by omega
          have pz1 : 0 < z := by omega
          have pz2 : ¬ z < 0 := by omega
          have pz3 : ¬ z < -z := by omega
          have pz4 : -z < z := by omega
          simp (maxSteps := 10000000) [hkd, coreNS, ↓loadB_VB, Tryz.f32, ok, corN, corF, cornF, wx, vx, wy, vy, wz, vz, px1, px2, px3, py1, py2, py3, pz1, pz2, pz3, ax, ay, az, hx, hy, hz, hr]
      · simp (maxSteps := 10000000) [hkd, hr, hx, hy, hz, coreNS, Tryz.f32, ok]
    · simp at h
  · simp at h
end Go.X
end

section
namespace Go.X
open Go.Proofs
attribute [local irreducible] Good
end Go.X
end
