/- Shapes without a list: spheres, capsules, boxes. -/
import Derived.Test.YtfhooccdhmkaoaaJT5
import Derived.Test.YtfhooccdhmkaoaaJS1
import Derived.Test.YtfhooccdhmkaoaaJSC
namespace Go.X
open Go.Proofs
attribute [local irreducible] Good
attribute [simp] Try.T_48
attribute [simp] Try.T_123
attribute [simp] Try.T_124
attribute [simp] Try.T_164
attribute [simp] Try.T_166
attribute [simp] Try.T_56
attribute [simp] Try.T_121
attribute [simp] Try.T_209
attribute [simp] Try.T_46
attribute [simp] Try.T_199
/-- may a shape without a list be? -/
def May1 (r x y z : Int) : Prop := 0 < r ∧ x = 0 ∧ y = 0 ∧ z = 0
def May2 (r x y z : Int) : Prop := 0 < r ∧ x = 0 ∧ y = 0 ∧ 0 < z
def May3 (r x y z : Int) : Prop := 0 ≤ r ∧ 65536 ≤ min3 x y z
def Flat0 (x y z : Int) : Prop := x = 0 ∧ y = 0 ∧ z = 0
instance (r x y z : Int) : Decidable (May1 r x y z) := inferInstanceAs (Decidable (_ ∧ _))
instance (r x y z : Int) : Decidable (May2 r x y z) := inferInstanceAs (Decidable (_ ∧ _))
instance (r x y z : Int) : Decidable (May3 r x y z) := inferInstanceAs (Decidable (_ ∧ _))
instance (x y z : Int) : Decidable (Flat0 x y z) := inferInstanceAs (Decidable (_ ∧ _))
instance (a b c : Int) : Decidable (Size3 a b c) := inferInstanceAs (Decidable (_ ∧ _))
def MayN (kd r x y z : Int) : Prop := (kd = 1 ∧ May1 r x y z) ∨ (kd = 2 ∧ May2 r x y z) ∨ (kd = 3 ∧ May3 r x y z)
def OkN (kd r x y z : Int) : Prop := MayN kd r x y z ∧ r ≤ 274877906944 ∧ Size3 x y z
instance (kd r x y z : Int) : Decidable (MayN kd r x y z) := inferInstanceAs (Decidable (_ ∨ _))
instance (kd r x y z : Int) : Decidable (OkN kd r x y z) := inferInstanceAs (Decidable (_ ∧ _))
/-- a corner's numbers -/
def cornF (x y z : Int) (j : Nat) : Int := if j % 3 = 0 then (if j / 3 % 2 = 0 then -x else x) else if j % 3 = 1 then (if j / 3 / 2 % 2 = 0 then -y else y) else (if j / 3 / 4 % 2 = 0 then -z else z)
/-- how many points a core has, and their numbers -/
def corN (kd : Int) : Nat := if kd = 1 then 1 else if kd = 2 then 2 else 8
def corF (kd x y z : Int) (j : Nat) : Int := if kd = 1 then 0 else if kd = 2 then (if j = 2 then -z else if j = 5 then z else 0) else cornF x y z j
/-- a list of vectors, with room for so many more -/
abbrev VB (n c : Nat) (F : Nat → Int) : Blk := ⟨[.arr .i64 ((n + c) * 3) (cutL (n * 3) F)], 24⟩
theorem min3_le {x y z : Int} : 65536 ≤ min3 x y z ↔ 65536 ≤ x ∧ 65536 ≤ y ∧ 65536 ≤ z := by
  unfold min3; (repeat' split) <;> omega
theorem mx1 {x : Int} (h : 0 ≤ x) : max3 0 (-x) x = x ∧ max3 0 x (-x) = x ∧ max3 x (-x) x = x ∧ max3 x x (-x) = x := by
  unfold max3; refine ⟨?_, ?_, ?_, ?_⟩ <;> ((repeat' split) <;> omega)
theorem okN_1 {r x y z : Int} : OkN 1 r x y z ↔ May1 r x y z ∧ r ≤ 274877906944 ∧ Size3 x y z := by simp [OkN, MayN]
theorem okN_2 {r x y z : Int} : OkN 2 r x y z ↔ May2 r x y z ∧ r ≤ 274877906944 ∧ Size3 x y z := by simp [OkN, MayN]
theorem okN_3 {r x y z : Int} : OkN 3 r x y z ↔ May3 r x y z ∧ r ≤ 274877906944 ∧ Size3 x y z := by simp [OkN, MayN]
theorem okN_not {kd r x y z : Int} (h1 : ¬ kd = 1) (h2 : ¬ kd = 2) (h3 : ¬ kd = 3) : ¬ OkN kd r x y z := by simp [OkN, MayN, h1, h2, h3]
theorem vb_1 {F : Nat → Int} {ty : TypeId} (h0 : F 0 = 0) (h1 : F 1 = 0) (h2 : F 2 = 0) : (⟨[.arr .i64 3 fun i => ([0, 0, 0] : List Int)[i]?.getD 0], ty⟩ : Blk) = ⟨[.arr .i64 ((1 + 0) * 3) (cutL (1 * 3) F)], ty⟩ := by
  have e : (fun i => ([0, 0, 0] : List Int)[i]?.getD 0) = cutL (1 * 3) F := by
    funext i
    unfold cutL
    by_cases hi : i < 1 * 3
    · rw [if_pos hi]
      have : i = 0 ∨ i = 1 ∨ i = 2 := by omega
      rcases this with rfl | rfl | rfl
      · rw [h0]; rfl
      · rw [h1]; rfl
      · rw [h2]; rfl
    · rw [if_neg hi, List.getElem?_eq_none (by simp; omega)]; rfl
  rw [e]
theorem vb_2 {a0 a1 a2 a3 a4 a5 : Int} {F : Nat → Int} {ty : TypeId} (h0 : F 0 = a0) (h1 : F 1 = a1) (h2 : F 2 = a2) (h3 : F 3 = a3) (h4 : F 4 = a4) (h5 : F 5 = a5) : (⟨[.arr .i64 6 fun i => ([a0, a1, a2, a3, a4, a5] : List Int)[i]?.getD 0], ty⟩ : Blk) = ⟨[.arr .i64 ((2 + 0) * 3) (cutL (2 * 3) F)], ty⟩ := by
  have e : (fun i => ([a0, a1, a2, a3, a4, a5] : List Int)[i]?.getD 0) = cutL (2 * 3) F := by
    funext i
    unfold cutL
    by_cases hi : i < 2 * 3
    · rw [if_pos hi]
      have : i = 0 ∨ i = 1 ∨ i = 2 ∨ i = 3 ∨ i = 4 ∨ i = 5 := by omega
      rcases this with rfl | rfl | rfl | rfl | rfl | rfl
      · rw [h0]; rfl
      · rw [h1]; rfl
      · rw [h2]; rfl
      · rw [h3]; rfl
      · rw [h4]; rfl
      · rw [h5]; rfl
    · rw [if_neg hi, List.getElem?_eq_none (by simp; omega)]; rfl
  rw [e]
theorem told_some {θ : List Nat} {m0 m' : List Blk} {nxt : Nat} {keep : List Nat} {v : AV} {r r0 : CR} (h : Told θ m0 m' nxt keep none v r) (hr : r = r0) : Told θ m0 m' nxt keep none v r0 := hr ▸ h

noncomputable def kin1S : List AV → PR
  | [.agg [.int .i64 _, .int .i64 _, .int .i64 x, .int .i64 y, .int .i64 z, .nilslice]] => open Classical in if InI x ∧ InI y ∧ InI z then .val (.bool (decide (Flat0 x y z))) else .fail
  | _ => .fail
@[simp] theorem kin1S_val {kd r x y z : Int} (h : InI x ∧ InI y ∧ InI z) : kin1S [.agg [.int .i64 kd, .int .i64 r, .int .i64 x, .int .i64 y, .int .i64 z, .nilslice]] = .val (.bool (decide (Flat0 x y z))) := if_pos h
theorem kin1_ok : SumOk Try.prog 133 (pureS kin1S) := by
  refine sum_fn (L := fun _ => none) (n := 1) (S := stOf []) drawS Try.T_ok (stOf_ok (by simp)) Try.func133 rfl (by kernel_rfl) (by kernel_rfl) ?_
    (by intro args v h; unfold kin1S at h; split at h <;> (try split at h) <;> simp at h)
  intro args v h
  unfold kin1S at h
  split at h
  · rename_i kd r x y z
    split at h
    · rename_i hc
      obtain ⟨hx, hy, hz⟩ := hc
      cases h
      refine ⟨by simp, by simp, by simp, ?_⟩
      by_cases h1 : x = 0
      · by_cases h2 : y = 0
        · by_cases h3 : z = 0
          · simp [Try.f133, Flat0, h1, h2, h3]
          · have bz : (z == 0) = false := by simpa using h3
            simp [Try.f133, Flat0, h1, h2, h3, bz]
        · have byy : (y == 0) = false := by simpa using h2
          simp [Try.f133, Flat0, h1, h2, byy]
      · have bx : (x == 0) = false := by simpa using h1
        simp [Try.f133, Flat0, h1, bx]
    · simp at h
  · simp at h

noncomputable def kin2S : Sum := fun args env _ => match args with
  | [.agg [.int .i64 _, .int .i64 r, .int .i64 x, .int .i64 y, .int .i64 z, .nilslice], .ptr p 0] => match env p with
    | some ⟨[.fn 133 []], _⟩ => open Classical in if InI r ∧ InI x ∧ InI y ∧ InI z then .val (.bool (decide (May1 r x y z))) [] [] else .fail
    | _ => .fail
  | _ => .fail
theorem kin2_ok : SumOk Try.prog 134 kin2S := by
  refine sum_read (L := fun _ => none) (n := 1) (S := stOf [(133, pureS kin1S)]) drawS Try.T_ok (stOf_ok (by simp [kin1_ok])) Try.func134 rfl (by kernel_rfl) (by kernel_rfl) ?_
  intro args env nxt h
  unfold kin2S at h ⊢
  split at h
  · rename_i kd r x y z p
    split at h
    · rename_i  ty0 m0
      split at h
      · rename_i hc
        obtain ⟨hr, hx, hy, hz⟩ := id hc
        refine ⟨_, _, _, .bool (decide (May1 r x y z)), laid1 [.agg [.int .i64 kd, .int .i64 r, .int .i64 x, .int .i64 y, .int .i64 z, .nilslice], .ptr 0 0] rfl (by simp) m0 rfl, by first | exact if_pos hc | (simp only [m0]; exact if_pos hc) | (simp [m0]; exact hc), by simp, by simp, ?_⟩
        have m1 : May1 r x y z ↔ 0 < r ∧ Flat0 x y z := Iff.rfl
        by_cases h1 : 0 < r
        · by_cases h2 : Flat0 x y z <;> simp [hx, hy, hz, Try.f134, m1, h1, h2]
        · simp [Try.f134, m1, h1]
      · simp at h
    · simp at h
  · simp at h

noncomputable def kin4S : List AV → PR
  | [.agg [.int .i64 _, .int .i64 r, .int .i64 x, .int .i64 y, .int .i64 z, .nilslice]] => open Classical in if InI r ∧ InI x ∧ InI y ∧ InI z then .val (.bool (decide (May2 r x y z))) else .fail
  | _ => .fail
@[simp] theorem kin4S_val {kd r x y z : Int} (h : InI r ∧ InI x ∧ InI y ∧ InI z) : kin4S [.agg [.int .i64 kd, .int .i64 r, .int .i64 x, .int .i64 y, .int .i64 z, .nilslice]] = .val (.bool (decide (May2 r x y z))) := if_pos h
theorem kin4_ok : SumOk Try.prog 136 (pureS kin4S) := by
  refine sum_fn (L := fun _ => none) (n := 1) (S := stOf []) drawS Try.T_ok (stOf_ok (by simp)) Try.func136 rfl (by kernel_rfl) (by kernel_rfl) ?_
    (by intro args v h; unfold kin4S at h; split at h <;> (try split at h) <;> simp at h)
  intro args v h
  unfold kin4S at h
  split at h
  · rename_i kd r x y z
    split at h
    · rename_i hc
      obtain ⟨hr, hx, hy, hz⟩ := hc
      cases h
      refine ⟨by simp, by simp, by simp, ?_⟩
      by_cases h0 : 0 < r
      · by_cases h1 : x = 0
        · by_cases h2 : y = 0
          · by_cases h3 : 0 < z
            · simp [Try.f136, May2, h0, h1, h2, h3]
            · simp [Try.f136, May2, h0, h1, h2, h3]
          · have byy : (y == 0) = false := by simpa using h2
            simp [Try.f136, May2, h0, h1, h2, byy]
        · have bx : (x == 0) = false := by simpa using h1
          simp [Try.f136, May2, h0, h1, bx]
      · simp [Try.f136, May2, h0]
    · simp at h
  · simp at h

noncomputable def kin6S : List AV → PR
  | [.agg [.int .i64 _, .int .i64 r, .int .i64 x, .int .i64 y, .int .i64 z, .nilslice]] => open Classical in if InI r ∧ InI x ∧ InI y ∧ InI z then .val (.bool (decide (May3 r x y z))) else .fail
  | _ => .fail
@[simp] theorem kin6S_val {kd r x y z : Int} (h : InI r ∧ InI x ∧ InI y ∧ InI z) : kin6S [.agg [.int .i64 kd, .int .i64 r, .int .i64 x, .int .i64 y, .int .i64 z, .nilslice]] = .val (.bool (decide (May3 r x y z))) := if_pos h
theorem kin6_ok : SumOk Try.prog 138 (pureS kin6S) := by
  refine sum_fn (L := fun _ => none) (n := 1) (S := stOf []) drawS Try.T_ok (stOf_ok (by simp)) Try.func138 rfl (by kernel_rfl) (by kernel_rfl) ?_
    (by intro args v h; unfold kin6S at h; split at h <;> (try split at h) <;> simp at h)
  intro args v h
  unfold kin6S at h
  split at h
  · rename_i kd r x y z
    split at h
    · rename_i hc
      obtain ⟨hr, hx, hy, hz⟩ := hc
      cases h
      refine ⟨by simp, by simp, by simp, ?_⟩
      by_cases h1 : 0 ≤ r
      · by_cases h2 : 65536 ≤ min3 x y z <;> simp [Try.f138, May3, min3_is, h1, h2]
      · simp [Try.f138, May3, h1]
    · simp at h
  · simp at h

noncomputable def kin7S : List AV → PR
  | [.agg [.int .i64 _, .int .i64 r, .int .i64 x, .int .i64 y, .int .i64 z, .nilslice]] => open Classical in if InI r ∧ InI x ∧ InI y ∧ InI z then .val (.bool false) else .fail
  | _ => .fail
@[simp] theorem kin7S_val {kd r x y z : Int} (h : InI r ∧ InI x ∧ InI y ∧ InI z) : kin7S [.agg [.int .i64 kd, .int .i64 r, .int .i64 x, .int .i64 y, .int .i64 z, .nilslice]] = .val (.bool false) := if_pos h
theorem kin7_ok : SumOk Try.prog 140 (pureS kin7S) := by
  refine sum_fn (L := fun _ => none) (n := 1) (S := stOf []) drawS Try.T_ok (stOf_ok (by simp)) Try.func140 rfl (by kernel_rfl) (by kernel_rfl) ?_
    (by intro args v h; unfold kin7S at h; split at h <;> (try split at h) <;> simp at h)
  intro args v h
  unfold kin7S at h
  split at h
  · rename_i kd r x y z
    split at h
    · rename_i hc
      obtain ⟨hr, hx, hy, hz⟩ := hc
      cases h
      refine ⟨by simp, by simp, by simp, ?_⟩
      by_cases h0 : 0 ≤ r
      · by_cases h1 : x = 0
        · by_cases h2 : y = 0
          · by_cases h3 : z = 0
            · simp [Try.f140, h0, h1, h2, h3]
            · have bz : (z == 0) = false := by simpa using h3
              simp [Try.f140, h0, h1, h2, bz]
          · have byy : (y == 0) = false := by simpa using h2
            simp [Try.f140, h0, h1, byy]
        · have bx : (x == 0) = false := by simpa using h1
          simp [Try.f140, h0, bx]
      · simp [Try.f140, h0]
    · simp at h
  · simp at h

noncomputable def small9S : List AV → PR
  | [.agg [.int .i64 x, .int .i64 y, .int .i64 z]] => open Classical in if InI x ∧ InI y ∧ InI z then .val (.bool (decide (Size3 x y z))) else .fail
  | _ => .fail
@[simp] theorem small9S_val {x y z : Int} (h : InI x ∧ InI y ∧ InI z) : small9S [.agg [.int .i64 x, .int .i64 y, .int .i64 z]] = .val (.bool (decide (Size3 x y z))) := if_pos h
theorem small9_ok : SumOk Try.prog 130 (pureS small9S) := by
  refine sum_fn (L := fun _ => none) (n := 1) (S := stOf []) drawS Try.T_ok (stOf_ok (by simp)) Try.func130 rfl (by kernel_rfl) (by kernel_rfl) ?_
    (by intro args v h; unfold small9S at h; split at h <;> (try split at h) <;> simp at h)
  intro args v h
  unfold small9S at h
  split at h
  · rename_i x y z
    split at h
    · rename_i hc
      obtain ⟨hx, hy, hz⟩ := hc
      cases h
      refine ⟨by simp, by simp, by simp, ?_⟩
      by_cases sz : Size3 x y z
      · have sz2 := size_iff.1 sz
        have k3 : max3 x y z ≤ 274877906944 := by omega
        have k4 : -274877906944 ≤ min3 x y z := by omega
        simp [Try.f130, max3_is, min3_is, sz, k3, k4]
      · have sz2 : 274877906944 < max3 x y z ∨ min3 x y z < -274877906944 := by
          rw [size_iff] at sz; omega
        rcases Decidable.em (274877906944 < max3 x y z) with k1 | k1
        · have k3 : ¬ max3 x y z ≤ 274877906944 := by omega
          simp [Try.f130, max3_is, sz, k3]
        · have k2 := sz2.resolve_left k1
          have k3 : max3 x y z ≤ 274877906944 := by omega
          have k4 : ¬ -274877906944 ≤ min3 x y z := by omega
          simp [Try.f130, max3_is, min3_is, sz, k3, k4]
    · simp at h
  · simp at h

noncomputable def fineNS : List AV → PR
  | [.nilslice] => .val (.bool true)
  | _ => .fail
@[simp] theorem fineNS_val : fineNS [.nilslice] = .val (.bool true) := rfl
theorem fineN_ok : SumOk Try.prog 193 (pureS fineNS) := by
  refine sum_fn (L := fun _ => none) (n := 1) (S := stOf []) drawS Try.T_ok (stOf_ok (by simp)) Try.func193 rfl (by kernel_rfl) (by kernel_rfl) ?_
    (by intro args v h; unfold fineNS at h; split at h <;> (try split at h) <;> simp at h)
  intro args v h
  unfold fineNS at h
  split at h
  · skip
    cases h
    refine ⟨by simp, by simp, by simp, ?_⟩
    simp [Try.f193]
  · simp at h

noncomputable def spreadNS : List AV → PR
  | [.nilslice] => .val (.tup [.nilslice, .int .i64 0])
  | _ => .fail
theorem spreadN_ok : SumOk Try.prog 176 (pureS spreadNS) := by
  refine sum_readB (id := 2) (L := fun _ => none) (n := 2) (S := stOf [(193, pureS fineNS)]) drawS Try.T_ok (stOf_ok (by simp [fineN_ok])) (by kernel_rfl) Try.func176 rfl (by kernel_rfl) (by kernel_rfl) ?_
  intro args env nxt h
  unfold pureS spreadNS at h ⊢
  split at h
  · rename_i v hv
    split at hv
    · cases hv
      refine ⟨[.nilslice], [], [], .tup [.nilslice, .int .i64 0], ⟨rfl, rfl, by simp, by simp, by simp, by simp⟩, rfl, rfl, by simp, ?_⟩
      simp [execB, Try.f176]
    · simp at hv
  · rename_i v hv
    split at hv <;> simp at hv
  · simp at h

noncomputable def rankNS : List AV → PR
  | [.nilslice] => .val (.tup [.int .i64 (-1), .int .i64 0])
  | _ => .fail
@[simp] theorem rankNS_val : rankNS [.nilslice] = .val (.tup [.int .i64 (-1), .int .i64 0]) := rfl
theorem rankN_ok : SumOk Try.prog 132 (pureS rankNS) := by
  refine sum_fn (L := fun _ => none) (n := 1) (S := stOf [(176, pureS spreadNS)]) drawS Try.T_ok (stOf_ok (by simp [spreadN_ok])) Try.func132 rfl (by kernel_rfl) (by kernel_rfl) ?_
    (by intro args v h; unfold rankNS at h; split at h <;> (try split at h) <;> simp at h)
  intro args v h
  unfold rankNS at h
  split at h
  · skip
    cases h
    refine ⟨by simp, by simp, by simp, ?_⟩
    simp [Try.f132, spreadNS]
  · simp at h

noncomputable def kindsS : Sum := fun args _ nxt => match args with
  | [] => .val (.agg [.nilfn, .nilfn, .fn 134 [.ptr nxt 0], .fn 135 [], .fn 136 [], .fn 137 [], .fn 138 [], .fn 139 [], .fn 140 [], .fn 141 []]) [] [⟨[.fn 133 []], 56⟩]
  | _ => .fail
theorem kinds_ok : SumOk Try.prog 79 kindsS := by
  refine sum_mem (L := fun _ => none) (n := 1) (S := stOf []) drawS Try.T_ok (stOf_ok (by simp)) Try.func79 rfl (by kernel_rfl) (by kernel_rfl) ?_
  intro args env nxt h
  unfold kindsS at h ⊢
  split at h
  · refine ⟨[], [], [], ⟨rfl, rfl, by simp, by simp, by simp, by simp⟩, ?_⟩
    simp [Try.f79]
    exact ⟨[1], none, told_one (by simp) rfl (by simp) (by simp) (by simp [AV.ren, renL, glob]) (by simp) (by simp)⟩
  · simp at h

noncomputable def corn1S : List AV → PR
  | [.int .i64 i, .int .i64 w] => open Classical in if InI w ∧ 0 ≤ i ∧ i < 8 ∧ InI (-w) then .val (.int .i64 (if i % 2 = 0 then -w else w)) else .fail
  | _ => .fail
@[simp] theorem corn1S_val {i w : Int} (h : InI w ∧ 0 ≤ i ∧ i < 8 ∧ InI (-w)) : corn1S [.int .i64 i, .int .i64 w] = .val (.int .i64 (if i % 2 = 0 then -w else w)) := if_pos h
theorem corn1_ok : SumOk Try.prog 177 (pureS corn1S) := by
  refine sum_fn (L := fun _ => none) (n := 1) (S := stOf []) drawS Try.T_ok (stOf_ok (by simp)) Try.func177 rfl (by kernel_rfl) (by kernel_rfl) ?_
    (by intro args v h; unfold corn1S at h; split at h <;> (try split at h) <;> simp at h)
  intro args v h
  unfold corn1S at h
  split at h
  · rename_i i w
    split at h
    · rename_i hc
      obtain ⟨hw, e0, e1, e2⟩ := hc
      cases h
      refine ⟨by simp, by simp, by simp, ?_⟩
      have t1 : i.tmod 2 = i % 2 := Int.tmod_eq_emod_of_nonneg e0
      have w1 : IntKind.i64.wrap (-w) = -w := wrap_i64_in e2.1 e2.2
      by_cases h1 : i % 2 = 0
      · simp [Try.f177, t1, w1, h1]
      · simp [Try.f177, t1, h1]
    · simp at h
  · simp at h

noncomputable def checkNS : List AV → PR
  | [.agg [.int .i64 kd, .int .i64 r, .int .i64 x, .int .i64 y, .int .i64 z, .nilslice]] => open Classical in if InI kd ∧ InI r ∧ InI x ∧ InI y ∧ InI z then .val (.int .i64 (if OkN kd r x y z then 0 else 2)) else .fail
  | _ => .fail
@[simp] theorem checkNS_val {kd r x y z : Int} (h : InI kd ∧ InI r ∧ InI x ∧ InI y ∧ InI z) : checkNS [.agg [.int .i64 kd, .int .i64 r, .int .i64 x, .int .i64 y, .int .i64 z, .nilslice]] = .val (.int .i64 (if OkN kd r x y z then 0 else 2)) := if_pos h
set_option maxHeartbeats 40000000 in
theorem checkN_ok : SumOk Try.prog 78 (pureS checkNS) := by
  refine sum_fn (L := fun _ => none) (n := 2) (S := stOf [(79, kindsS), (134, kin2S), (136, pureS kin4S), (138, pureS kin6S), (140, pureS kin7S), (130, pureS small9S), (132, pureS rankNS)]) drawS Try.T_ok (stOf_ok (by simp [kinds_ok, kin2_ok, kin4_ok, kin6_ok, kin7_ok, small9_ok, rankN_ok])) Try.func78 rfl (by kernel_rfl) (by kernel_rfl) ?_
    (by intro args v h; unfold checkNS at h; split at h <;> (try split at h) <;> simp at h)
  intro args v h
  unfold checkNS at h
  split at h
  · rename_i kd r x y z
    split at h
    · rename_i hc
      obtain ⟨hkd, hr, hx, hy, hz⟩ := hc
      cases h
      refine ⟨by simp, by simp, by simp, ?_⟩
      by_cases k1 : kd = 1
      · subst k1
        by_cases m1 : May1 r x y z
        · by_cases m2 : r ≤ 274877906944
          · have m4 : ¬ 274877906944 < r := by omega
            by_cases m3 : Size3 x y z <;> simp (maxSteps := 10000000) [hr, hx, hy, hz, kindsS, kin2S, Try.f78, okN_1, m1, m2, m3, m4]
          · have m4 : 274877906944 < r := by omega
            simp (maxSteps := 10000000) [hr, hx, hy, hz, kindsS, kin2S, Try.f78, okN_1, m1, m2, m4]
        · simp (maxSteps := 10000000) [hr, hx, hy, hz, kindsS, kin2S, Try.f78, okN_1, m1]
      · by_cases k2 : kd = 2
        · subst k2
          by_cases m1 : May2 r x y z
          · by_cases m2 : r ≤ 274877906944
            · have m4 : ¬ 274877906944 < r := by omega
              by_cases m3 : Size3 x y z <;> simp (maxSteps := 10000000) [hr, hx, hy, hz, kindsS, Try.f78, okN_2, m1, m2, m3, m4]
            · have m4 : 274877906944 < r := by omega
              simp (maxSteps := 10000000) [hr, hx, hy, hz, kindsS, Try.f78, okN_2, m1, m2, m4]
          · simp (maxSteps := 10000000) [hr, hx, hy, hz, kindsS, Try.f78, okN_2, m1]
        · by_cases k3 : kd = 3
          · subst k3
            by_cases m1 : May3 r x y z
            · by_cases m2 : r ≤ 274877906944
              · have m4 : ¬ 274877906944 < r := by omega
                by_cases m3 : Size3 x y z <;> simp (maxSteps := 10000000) [hr, hx, hy, hz, kindsS, Try.f78, okN_3, m1, m2, m3, m4]
              · have m4 : 274877906944 < r := by omega
                simp (maxSteps := 10000000) [hr, hx, hy, hz, kindsS, Try.f78, okN_3, m1, m2, m4]
            · simp (maxSteps := 10000000) [hr, hx, hy, hz, kindsS, Try.f78, okN_3, m1]
          · have nk := okN_not (r := r) (x := x) (y := y) (z := z) k1 k2 k3
            by_cases k4 : kd = 4
            · subst k4
              simp (maxSteps := 10000000) [hr, hx, hy, hz, kindsS, Try.f78, nk]
            · by_cases k5 : kd < 1
              · simp (maxSteps := 10000000) [kindsS, Try.f78, nk, k5]
              · have k6 : 5 ≤ kd := by omega
                simp (maxSteps := 10000000) [kindsS, Try.f78, nk, k5, k6]
    · simp at h
  · simp at h

end Go.X
