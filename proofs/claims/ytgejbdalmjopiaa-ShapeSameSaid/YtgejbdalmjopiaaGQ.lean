/- Shapes with a list: what is told of them; may they be? -/
import Derived.Test.YtgejbdalmjopiaaGP
import Derived.Test.YtgejbdalmjopiaaGS
import Derived.Test.YtgejbdalmjopiaaGN

section
namespace Go.X

/-- a shape that comes in: its numbers, its list -/
def ShP (kd r x y z : Int) (n : Nat) (f : Nat → Int) : Prop := InI kd ∧ InI r ∧ InI x ∧ InI y ∧ InI z ∧ n ≤ 100 ∧ ∀ j, j < n * 3 → InI (f j)
/-- may a solid be, but that it may be flat? -/
def May4 (r x y z : Int) (n : Nat) (f : Nat → Int) : Prop := 0 ≤ r ∧ Flat0 x y z ∧ 4 ≤ n ∧ n ≤ 16 ∧ r ≤ 274877906944 ∧ ∀ j, j < n * 3 → SmN (f j)
def nrF (f : Nat → Int) (j : Nat) : Int := nearI (f j)
open Classical in
/-- what Check tells -/
noncomputable def ckI (kd r x y z : Int) (n : Nat) (f : Nat → Int) : Int :=
  if kd = 4 then (if May4 r x y z n f then (if Four (nrF f) n then 0 else 8) else 2) else if OkN kd r x y z ∧ n = 0 then 0 else 2
def coN (kd : Int) (n : Nat) : Nat := if kd = 4 then n else corN kd
def coF (kd x y z : Int) (f : Nat → Int) : Nat → Int := if kd = 4 then f else corF kd x y z
theorem cornF_sm {x y z : Int} (h : Size3 x y z) (j : Nat) : SmN (cornF x y z j) := by
  unfold Size3 at h
  unfold cornF SmN
  (repeat' split) <;> omega
theorem corF_sm {kd x y z : Int} (h : Size3 x y z) (j : Nat) : SmN (corF kd x y z j) := by
  have := cornF_sm h j
  unfold Size3 at h
  unfold corF
  (repeat' split) <;> first | exact this | (unfold SmN; omega)
/-- of a shape that may be -/
theorem ck_ok {kd r x y z : Int} {n : Nat} {f : Nat → Int} (h : ckI kd r x y z n f = 0) : 0 ≤ r ∧ r ≤ 274877906944 ∧ Size3 x y z ∧ 1 ≤ coN kd n ∧ coN kd n ≤ 16 ∧ ∀ j, j < coN kd n * 3 → SmN (coF kd x y z f j) := by
  unfold ckI at h
  by_cases k4 : kd = 4
  · rw [if_pos k4] at h
    split at h
    · rename_i hm
      obtain ⟨h1, ⟨rfl, rfl, rfl⟩, h3, h4, h5, h6⟩ := hm
      unfold coN coF
      rw [if_pos k4, if_pos k4]
      exact ⟨h1, h5, by unfold Size3; omega, by omega, h4, h6⟩
    · omega
  · rw [if_neg k4] at h
    split at h
    · rename_i hm
      obtain ⟨hk, h1, h2, h3⟩ := may_in hm.1
      unfold coN coF
      rw [if_neg k4, if_neg k4]
      refine ⟨h1, h2, h3, ?_, ?_, fun j _ => corF_sm h3 j⟩ <;> (unfold corN; (repeat' split) <;> omega)
    · omega
/-- the greatest of so many, from 0 on, of those c behind the first of three -/
def mxI (F : Nat → Int) (c : Nat) : Nat → Int
  | 0 => 0
  | k + 1 => max (mxI F c k) (max (F (k * 3 + c)) (-F (k * 3 + c)))
theorem mxI_bd {F : Nat → Int} {c : Nat} (hc : c < 3) : ∀ {k : Nat}, (∀ j, j < k * 3 → SmN (F j)) → 0 ≤ mxI F c k ∧ mxI F c k ≤ 274877906944
  | 0, _ => by simp [mxI]
  | k + 1, h => by
    have ih := mxI_bd (F := F) hc (k := k) fun j hj => h j (by omega)
    have := h (k * 3 + c) (by omega)
    unfold SmN at this
    unfold mxI
    omega
theorem mxI_le {F : Nat → Int} {c : Nat} : ∀ {k i : Nat}, i < k → F (i * 3 + c) ≤ mxI F c k ∧ -F (i * 3 + c) ≤ mxI F c k
  | 0, i, h => by omega
  | k + 1, i, h => by
    unfold mxI
    by_cases hi : i = k
    · subst hi; omega
    · have := mxI_le (F := F) (c := c) (k := k) (i := i) (by omega)
      omega
theorem mxI_is {F : Nat → Int} {c : Nat} : ∀ {k : Nat}, 0 < k → ∃ i, i < k ∧ (F (i * 3 + c) = mxI F c k ∨ -F (i * 3 + c) = mxI F c k)
  | 0, h => by omega
  | 1, _ => ⟨0, by omega, by unfold mxI mxI; omega⟩
  | k + 2, _ => by
    obtain ⟨i, hi, h⟩ := mxI_is (F := F) (c := c) (k := k + 1) (by omega)
    by_cases hm : max (F ((k + 1) * 3 + c)) (-F ((k + 1) * 3 + c)) ≤ mxI F c (k + 1)
    · refine ⟨i, by omega, ?_⟩
      rw [mxI, Int.max_eq_left hm]
      exact h
    · refine ⟨k + 1, by omega, ?_⟩
      rw [mxI, Int.max_eq_right (by omega)]
      omega
/-- how far a point is -/
noncomputable def lenF (F : Nat → Int) (i : Nat) : Int := clampI (luI (F (i * 3) * F (i * 3) + F (i * 3 + 1) * F (i * 3 + 1) + F (i * 3 + 2) * F (i * 3 + 2)))
noncomputable def farI (F : Nat → Int) : Nat → Int
  | 0 => 0
  | k + 1 => max (farI F k) (lenF F k)
theorem farI_le {F : Nat → Int} : ∀ {k i : Nat}, i < k → lenF F i ≤ farI F k
  | 0, i, h => by omega
  | k + 1, i, h => by
    unfold farI
    by_cases hi : i = k
    · subst hi; omega
    · have := farI_le (F := F) (k := k) (i := i) (by omega)
      omega
end Go.X
end

section
namespace Go.X
open Go.Proofs
attribute [local irreducible] Good

noncomputable def rankLS : Sum := fun args env _ => match args with
  | [.slice p o n c] => match listE env (.slice p o n c) with
    | some (n', f) => open Classical in if 0 < n' ∧ n' ≤ 256 ∧ (∀ j, j < n' * 3 → PtN (f j)) then .val (.tup [.int .i64 ((tk f n').1 - 1), .int .i64 0]) [] [] else .fail
    | none => .fail
  | _ => .fail
theorem rankL_ok : SumOk Try.prog 42 rankLS := by
  refine sum_read (L := fun _ => none) (n := 1) (S := stOf [(74, spreadLS)]) drawS Try.T_ok (stOf_ok (by simp [spreadL_ok])) Try.func42 rfl (by kernel_rfl) (by kernel_rfl) ?_
  intro args env nxt h
  unfold rankLS at h ⊢
  split at h
  · rename_i p o1 n c
    split at h
    · rename_i n' f hl
      split at h
      · rename_i hc
        simp only [if_pos hc]
        obtain ⟨rfl, hnc, items, ty, hp, hr, ⟨o, F, hrow, hf⟩, -⟩ := listE_slice hl
        have hE := listE_own hrow hf hnc
        obtain ⟨h0, hn, hF⟩ := id hc
        have hcf : (∀ j, j < n' * 3 → PtN (f j)) = True := eq_true hF
        have hle := tk_le f n'
        have w1 : IntKind.i64.wrap (((tk f n').1 : Int) - 1) = (tk f n').1 - 1 := wrap_i64_in (by omega) (by omega)
        refine ⟨_, _, _, .tup [.int .i64 ((tk f n').1 - 1), .int .i64 0], laid1 [.slice 0 o1 n' c] rfl (by simp) hp hr, rfl, rfl, rfl, ?_⟩
        simp [Try.f42, spreadLS, hE, h0, hn, hcf, w1]
      · simp [*] at h
    · simp [*] at h
  · simp at h
/-- Rank, of a list or of none -/
noncomputable def rankBS : Sum := fun args env nxt => match args with
  | [.nilslice] => .val (.tup [.int .i64 (-1), .int .i64 0]) [] []
  | [.slice p o n c] => rankLS [.slice p o n c] env nxt
  | _ => .fail
theorem rankB_ok : SumOk Try.prog 42 rankBS := by
  refine sum_or rankN_ok rankL_ok fun args env nxt => ?_
  unfold rankBS
  split
  · exact .inr (.inl rfl)
  · exact .inr (.inr rfl)
  · exact .inl rfl
end Go.X
end

section
namespace Go.X
open Go.Proofs
attribute [local irreducible] Good
noncomputable def kin1LS : Sum := fun args env _ => match args with
  | [.agg [.int .i64 _kd, .int .i64 _r, .int .i64 x, .int .i64 y, .int .i64 z, .slice p o1 n0 c]] => match listE env (.slice p o1 n0 c) with
    | some (n, _f) => open Classical in if InI x ∧ InI y ∧ InI z then .val (.bool (decide (Flat0 x y z ∧ n = 0))) [] [] else .fail
    | none => .fail
  | _ => .fail
set_option maxHeartbeats 4000000 in
set_option maxRecDepth 100000 in
theorem kin1L_ok : SumOk Try.prog 43 kin1LS := by
  refine sum_read (L := fun _ => none) (n := 1) (S := stOf []) drawS Try.T_ok (stOf_ok (by simp)) Try.func43 rfl (by kernel_rfl) (by kernel_rfl) ?_
  intro args env nxt h
  unfold kin1LS at h ⊢
  split at h
  · rename_i kd r x y z p o1 n0 c 
    split at h
    · rename_i n f hl
      split at h
      · rename_i hc
        simp only [if_pos hc]
        obtain ⟨hx, hy, hz⟩ := id hc
        obtain ⟨rfl, hnc, items, ty, hp, hr, ⟨o, F, hrow, hf⟩, hload⟩ := listE_slice hl
        have hE := listE_own hrow hf hnc
        have hE2 := listE_ownE hrow hf hnc
        refine ⟨_, _, _, .bool (decide (Flat0 x y z ∧ n = 0)), laid1 [.agg [.int .i64 kd, .int .i64 r, .int .i64 x, .int .i64 y, .int .i64 z, .slice 0 o1 n c]] rfl (by simp) hp hr, rfl, rfl, rfl, ?_⟩
        by_cases h1 : x = 0
        · by_cases h2 : y = 0
          · by_cases h3 : z = 0
            · by_cases h4 : n = 0
              · simp [Try.f43, Flat0, h1, h2, h3, h4]
              · simp [Try.f43, Flat0, h1, h2, h3, h4]
            · have bz : (z == 0) = false := by simpa using h3
              simp [Try.f43, Flat0, h1, h2, h3, bz]
          · have byy : (y == 0) = false := by simpa using h2
            simp [Try.f43, Flat0, h1, h2, byy]
        · have bx : (x == 0) = false := by simpa using h1
          simp [Try.f43, Flat0, h1, bx]
      · simp [*] at h
    · simp [*] at h
  · simp at h
noncomputable def kin2LS : Sum := fun args env _ => match args with
  | [.agg [.int .i64 _kd, .int .i64 r, .int .i64 x, .int .i64 y, .int .i64 z, .slice p o1 n0 c], .ptr q 0] => match listE env (.slice p o1 n0 c), env q with
    | some (n, _f), some ⟨[.fn 43 []], _⟩ => open Classical in if InI r ∧ InI x ∧ InI y ∧ InI z then .val (.bool (decide (May1 r x y z ∧ n = 0))) [] [] else .fail
    | _, _ => .fail
  | _ => .fail
set_option maxHeartbeats 4000000 in
theorem kin2L_ok : SumOk Try.prog 44 kin2LS := by
  refine sum_read (L := fun _ => none) (n := 1) (S := stOf [(43, kin1LS)]) drawS Try.T_ok (stOf_ok (by simp [kin1L_ok])) Try.func44 rfl (by kernel_rfl) (by kernel_rfl) ?_
  intro args env nxt h
  unfold kin2LS at h ⊢
  split at h
  · rename_i kd r x y z p o1 n0 c q
    split at h
    · rename_i n f ty0 hl m0
      split at h
      · rename_i hc
        obtain ⟨hr, hx, hy, hz⟩ := id hc
        simp only [if_pos hc]
        obtain ⟨rfl, hnc, items, ty, hp, hri, ⟨o, F, hrow, hf⟩, hload⟩ := listE_slice hl
        have hE := listE_own hrow hf hnc
        have hne : p ≠ q := by
          rintro rfl
          rw [hp] at m0
          cases m0
          simp [rowB] at hrow
        refine ⟨_, _, _, .bool (decide (May1 r x y z ∧ n = 0)), laid2 [.agg [.int .i64 kd, .int .i64 r, .int .i64 x, .int .i64 y, .int .i64 z, .slice 0 o1 n c], .ptr 1 0] rfl (by simp) hp m0 hne hri rfl, rfl, rfl, rfl, ?_⟩
        have m1 : May1 r x y z ↔ 0 < r ∧ Flat0 x y z := Iff.rfl
        by_cases h1 : 0 < r
        · by_cases h3 : n = 0
          · subst h3
            by_cases h2 : Flat0 x y z <;> (simp [hx, hy, hz, kin1LS, hE, Try.f44, m1, h1, h2]; try exact two_same)
          · by_cases h2 : Flat0 x y z <;> (simp [hx, hy, hz, kin1LS, hE, Try.f44, m1, h1, h2, h3]; try exact two_same)
        · simp [Try.f44, m1, h1]
          try exact two_same
      · simp [*] at h
    · simp [*] at h
  · simp at h
noncomputable def kin4LS : Sum := fun args env _ => match args with
  | [.agg [.int .i64 _kd, .int .i64 r, .int .i64 x, .int .i64 y, .int .i64 z, .slice p o1 n0 c]] => match listE env (.slice p o1 n0 c) with
    | some (n, _f) => open Classical in if InI r ∧ InI x ∧ InI y ∧ InI z then .val (.bool (decide (May2 r x y z ∧ n = 0))) [] [] else .fail
    | none => .fail
  | _ => .fail
set_option maxHeartbeats 4000000 in
set_option maxRecDepth 100000 in
theorem kin4L_ok : SumOk Try.prog 46 kin4LS := by
  refine sum_read (L := fun _ => none) (n := 1) (S := stOf []) drawS Try.T_ok (stOf_ok (by simp)) Try.func46 rfl (by kernel_rfl) (by kernel_rfl) ?_
  intro args env nxt h
  unfold kin4LS at h ⊢
  split at h
  · rename_i kd r x y z p o1 n0 c 
    split at h
    · rename_i n f hl
      split at h
      · rename_i hc
        simp only [if_pos hc]
        obtain ⟨hr, hx, hy, hz⟩ := id hc
        obtain ⟨rfl, hnc, items, ty, hp, hr, ⟨o, F, hrow, hf⟩, hload⟩ := listE_slice hl
        have hE := listE_own hrow hf hnc
        have hE2 := listE_ownE hrow hf hnc
        refine ⟨_, _, _, .bool (decide (May2 r x y z ∧ n = 0)), laid1 [.agg [.int .i64 kd, .int .i64 r, .int .i64 x, .int .i64 y, .int .i64 z, .slice 0 o1 n c]] rfl (by simp) hp hr, rfl, rfl, rfl, ?_⟩
        by_cases h0 : 0 < r
        · by_cases h1 : x = 0
          · by_cases h2 : y = 0
            · by_cases h3 : 0 < z
              · by_cases h4 : n = 0
                · simp [Try.f46, May2, h0, h1, h2, h3, h4]
                · simp [Try.f46, May2, h0, h1, h2, h3, h4]
              · simp [Try.f46, May2, h0, h1, h2, h3]
            · have byy : (y == 0) = false := by simpa using h2
              simp [Try.f46, May2, h0, h1, h2, byy]
          · have bx : (x == 0) = false := by simpa using h1
            simp [Try.f46, May2, h0, h1, bx]
        · simp [Try.f46, May2, h0]
      · simp [*] at h
    · simp [*] at h
  · simp at h
noncomputable def kin6LS : Sum := fun args env _ => match args with
  | [.agg [.int .i64 _kd, .int .i64 r, .int .i64 x, .int .i64 y, .int .i64 z, .slice p o1 n0 c]] => match listE env (.slice p o1 n0 c) with
    | some (n, _f) => open Classical in if InI r ∧ InI x ∧ InI y ∧ InI z then .val (.bool (decide (May3 r x y z ∧ n = 0))) [] [] else .fail
    | none => .fail
  | _ => .fail
set_option maxHeartbeats 4000000 in
set_option maxRecDepth 100000 in
theorem kin6L_ok : SumOk Try.prog 48 kin6LS := by
  refine sum_read (L := fun _ => none) (n := 1) (S := stOf []) drawS Try.T_ok (stOf_ok (by simp)) Try.func48 rfl (by kernel_rfl) (by kernel_rfl) ?_
  intro args env nxt h
  unfold kin6LS at h ⊢
  split at h
  · rename_i kd r x y z p o1 n0 c 
    split at h
    · rename_i n f hl
      split at h
      · rename_i hc
        simp only [if_pos hc]
        obtain ⟨hr, hx, hy, hz⟩ := id hc
        obtain ⟨rfl, hnc, items, ty, hp, hr, ⟨o, F, hrow, hf⟩, hload⟩ := listE_slice hl
        have hE := listE_own hrow hf hnc
        have hE2 := listE_ownE hrow hf hnc
        refine ⟨_, _, _, .bool (decide (May3 r x y z ∧ n = 0)), laid1 [.agg [.int .i64 kd, .int .i64 r, .int .i64 x, .int .i64 y, .int .i64 z, .slice 0 o1 n c]] rfl (by simp) hp hr, rfl, rfl, rfl, ?_⟩
        by_cases h1 : 0 ≤ r
        · by_cases h2 : 65536 ≤ min3 x y z
          · by_cases h3 : n = 0 <;> simp [Try.f48, May3, min3_is, h1, h2, h3]
          · simp [Try.f48, May3, min3_is, h1, h2]
        · simp [Try.f48, May3, h1]
      · simp [*] at h
    · simp [*] at h
  · simp at h
noncomputable def kin7LS : Sum := fun args env _ => match args with
  | [.agg [.int .i64 _kd, .int .i64 r, .int .i64 x, .int .i64 y, .int .i64 z, .slice p o1 n0 c]] => match listE env (.slice p o1 n0 c) with
    | some (n, _f) => open Classical in if InI r ∧ InI x ∧ InI y ∧ InI z then .val (.bool (decide (0 ≤ r ∧ Flat0 x y z ∧ 4 ≤ n ∧ n ≤ 16))) [] [] else .fail
    | none => .fail
  | _ => .fail
set_option maxHeartbeats 4000000 in
set_option maxRecDepth 100000 in
theorem kin7L_ok : SumOk Try.prog 50 kin7LS := by
  refine sum_read (L := fun _ => none) (n := 1) (S := stOf []) drawS Try.T_ok (stOf_ok (by simp)) Try.func50 rfl (by kernel_rfl) (by kernel_rfl) ?_
  intro args env nxt h
  unfold kin7LS at h ⊢
  split at h
  · rename_i kd r x y z p o1 n0 c 
    split at h
    · rename_i n f hl
      split at h
      · rename_i hc
        simp only [if_pos hc]
        obtain ⟨hr, hx, hy, hz⟩ := id hc
        obtain ⟨rfl, hnc, items, ty, hp, hr, ⟨o, F, hrow, hf⟩, hload⟩ := listE_slice hl
        have hE := listE_own hrow hf hnc
        have hE2 := listE_ownE hrow hf hnc
        refine ⟨_, _, _, .bool (decide (0 ≤ r ∧ Flat0 x y z ∧ 4 ≤ n ∧ n ≤ 16)), laid1 [.agg [.int .i64 kd, .int .i64 r, .int .i64 x, .int .i64 y, .int .i64 z, .slice 0 o1 n c]] rfl (by simp) hp hr, rfl, rfl, rfl, ?_⟩
        by_cases h0 : 0 ≤ r
        · by_cases h1 : x = 0
          · by_cases h2 : y = 0
            · by_cases h3 : z = 0
              · by_cases h4 : 4 ≤ n
                · have h4' : (4 : Int) ≤ n := by omega
                  by_cases h5 : n ≤ 16
                  · have h5' : (n : Int) ≤ 16 := by omega
                    simp [Try.f50, Flat0, h0, h1, h2, h3, h4, h4', h5, h5']
                  · have h5' : ¬ (n : Int) ≤ 16 := by omega
                    simp [Try.f50, Flat0, h0, h1, h2, h3, h4, h4', h5, h5']
                · have h4' : ¬ (4 : Int) ≤ n := by omega
                  simp [Try.f50, Flat0, h0, h1, h2, h3, h4, h4']
              · have bz : (z == 0) = false := by simpa using h3
                simp [Try.f50, Flat0, h0, h1, h2, h3, bz]
            · have byy : (y == 0) = false := by simpa using h2
              simp [Try.f50, Flat0, h0, h1, h2, byy]
          · have bx : (x == 0) = false := by simpa using h1
            simp [Try.f50, Flat0, h0, h1, bx]
        · simp [Try.f50, h0]
      · simp [*] at h
    · simp [*] at h
  · simp at h
end Go.X
end

section
namespace Go.X
open Go.Proofs
attribute [local irreducible] Good

instance (a : Int) : Decidable (SmN a) := inferInstanceAs (Decidable (_ ∧ _))

end Go.X
end
