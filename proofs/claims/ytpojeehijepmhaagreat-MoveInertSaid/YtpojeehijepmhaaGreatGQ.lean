/- Shapes with a list: what is told of them; may they be? -/
import Derived.Test.YtpojeehijepmhaaGreatGP
import Derived.Test.YtpojeehijepmhaaGreatGS
import Derived.Test.YtpojeehijepmhaaGreatGN

section
namespace Go.X
def ShP (kd r x y z : Int) (n : Nat) (f : Nat → Int) : Prop := InI kd ∧ InI r ∧ InI x ∧ InI y ∧ InI z ∧ n ≤ 100 ∧ ∀ j, j < n * 3 → InI (f j)
def May4 (r x y z : Int) (n : Nat) (f : Nat → Int) : Prop := 0 ≤ r ∧ Flat0 x y z ∧ 4 ≤ n ∧ n ≤ 16 ∧ r ≤ 274877906944 ∧ ∀ j, j < n * 3 → SmN (f j)
def nrF (f : Nat → Int) (j : Nat) : Int := nearI (f j)
open Classical in
noncomputable def ckI (kd r x y z : Int) (n : Nat) (f : Nat → Int) : Int :=
  if kd = 4 then (if May4 r x y z n f then (if Four (nrF f) n then 0 else 8) else 2) else if OkN kd r x y z ∧ n = 0 then 0 else 2
def coN (kd : Int) (n : Nat) : Nat := if kd = 4 then n else corN kd
def coF (kd x y z : Int) (f : Nat → Int) : Nat → Int := if kd = 4 then f else corF kd x y z
theorem cornF_sm {x y z : Int} (h : Size3 x y z) (j : Nat) : SmN (cornF x y z j) := by
  unfold Size3 at h
  unfold cornF SmN
  (repeat' split) <;> omega
theorem corF_sm {kd x y z : Int} (h : Size3 x y z) (j : Nat) : SmN (corF kd x y z j) := by
  have := cornF_sm h j
  unfold Size3 at h
  unfold corF
  (repeat' split) <;> first | exact this | (unfold SmN; omega)
theorem ck_ok {kd r x y z : Int} {n : Nat} {f : Nat → Int} (h : ckI kd r x y z n f = 0) : 0 ≤ r ∧ r ≤ 274877906944 ∧ Size3 x y z ∧ 1 ≤ coN kd n ∧ coN kd n ≤ 16 ∧ ∀ j, j < coN kd n * 3 → SmN (coF kd x y z f j) := by
  unfold ckI at h
  by_cases k4 : kd = 4
  · rw [if_pos k4] at h
    split at h
    · rename_i hm
      obtain ⟨h1, ⟨rfl, rfl, rfl⟩, h3, h4, h5, h6⟩ := hm
      unfold coN coF
      rw [if_pos k4, if_pos k4]
      exact ⟨h1, h5, by unfold Size3; omega, by omega, h4, h6⟩
    · omega
  · rw [if_neg k4] at h
    split at h
    · rename_i hm
      obtain ⟨hk, h1, h2, h3⟩ := may_in hm.1
      unfold coN coF
      rw [if_neg k4, if_neg k4]
      refine ⟨h1, h2, h3, ?_, ?_, fun j _ => corF_sm h3 j⟩ <;> (unfold corN; (repeat' split) <;> omega)
    · omega
def mxI (F : Nat → Int) (c : Nat) : Nat → Int
  | 0 => 0
  | k + 1 => max (mxI F c k) (max (F (k * 3 + c)) (-F (k * 3 + c)))
theorem mxI_bd {F : Nat → Int} {c : Nat} (hc : c < 3) : ∀ {k : Nat}, (∀ j, j < k * 3 → SmN (F j)) → 0 ≤ mxI F c k ∧ mxI F c k ≤ 274877906944
  | 0, _ => by simp [mxI]
  | k + 1, h => by
    have ih := mxI_bd (F := F) hc (k := k) fun j hj => h j (by omega)
    have := h (k * 3 + c) (by omega)
    unfold SmN at this
    unfold mxI
    omega
end Go.X
end

section
namespace Go.X
open Go.Proofs
attribute [local irreducible] Good
noncomputable def rankLS : Sum := fun args env _ => match args with
  | [.slice p o n c] => match listE env (.slice p o n c) with
    | some (n', f) => open Classical in if 0 < n' ∧ n' ≤ 256 ∧ (∀ j, j < n' * 3 → PtN (f j)) then .val (.tup [.int .i64 ((tk f n').1 - 1), .int .i64 0]) [] [] else .fail
    | none => .fail
  | _ => .fail
theorem rankL_ok : SumOk Tryz.prog 112 rankLS := by
  refine sum_read (L := fun _ => none) (n := 1) (S := stOf [(170, spreadLS)]) drawS Tryz.T_ok (stOf_ok (by simp [spreadL_ok])) Tryz.func112 rfl (by kernel_rfl) (by kernel_rfl) ?_
  intro args env nxt h
  unfold rankLS at h ⊢
  split at h
  · rename_i p o1 n c
    split at h
    · rename_i n' f hl
      split at h
      · rename_i hc
        simp only [if_pos hc]
        obtain ⟨rfl, hnc, items, ty, hp, hr, ⟨o, F, hrow, hf⟩, -⟩ := listE_slice hl
        have hE := listE_own hrow hf hnc
        obtain ⟨h0, hn, hF⟩ := id hc
        have hcf : (∀ j, j < n' * 3 → PtN (f j)) = True := eq_true hF
        have hle := tk_le f n'
        have w1 : IntKind.i64.wrap (((tk f n').1 : Int) - 1) = (tk f n').1 - 1 := wrap_i64_in (by omega) (by omega)
        refine ⟨_, _, _, .tup [.int .i64 ((tk f n').1 - 1), .int .i64 0], laid1 [.slice 0 o1 n' c] rfl (by simp) hp hr, rfl, rfl, rfl, ?_⟩
        simp [Tryz.f112, spreadLS, hE, h0, hn, hcf, w1]
      · simp [*] at h
    · simp [*] at h
  · simp at h
noncomputable def rankBS : Sum := fun args env nxt => match args with
  | [.nilslice] => .val (.tup [.int .i64 (-1), .int .i64 0]) [] []
  | [.slice p o n c] => rankLS [.slice p o n c] env nxt
  | _ => .fail
theorem rankB_ok : SumOk Tryz.prog 112 rankBS := by
  refine sum_or rankN_ok rankL_ok fun args env nxt => ?_
  unfold rankBS
  split
  · exact .inr (.inl rfl)
  · exact .inr (.inr rfl)
  · exact .inl rfl
end Go.X
end

section
namespace Go.X
open Go.Proofs
attribute [local irreducible] Good
noncomputable def kin1LS : Sum := fun args env _ => match args with
  | [.agg [.int .i64 _kd, .int .i64 _r, .int .i64 x, .int .i64 y, .int .i64 z, .slice p o1 n0 c]] => match listE env (.slice p o1 n0 c) with
    | some (n, _f) => open Classical in if InI x ∧ InI y ∧ InI z then .val (.bool (decide (Flat0 x y z ∧ n = 0))) [] [] else .fail
    | none => .fail
  | _ => .fail
set_option maxHeartbeats 4000000 in
set_option maxRecDepth 100000 in
theorem kin1L_ok : SumOk Tryz.prog 159 kin1LS := by
  refine sum_read (L := fun _ => none) (n := 1) (S := stOf []) drawS Tryz.T_ok (stOf_ok (by simp)) Tryz.func159 rfl (by kernel_rfl) (by kernel_rfl) ?_
  intro args env nxt h
  unfold kin1LS at h ⊢
  split at h
  · rename_i kd r x y z p o1 n0 c 
    split at h
    · rename_i n f hl
      split at h
      · rename_i hc
        simp only [if_pos hc]
        obtain ⟨hx, hy, hz⟩ := id hc
        obtain ⟨rfl, hnc, items, ty, hp, hr, ⟨o, F, hrow, hf⟩, hload⟩ := listE_slice hl
        have hE := listE_own hrow hf hnc
        have hE2 := listE_ownE hrow hf hnc
        refine ⟨_, _, _, .bool (decide (Flat0 x y z ∧ n = 0)), laid1 [.agg [.int .i64 kd, .int .i64 r, .int .i64 x, .int .i64 y, .int .i64 z, .slice 0 o1 n c]] rfl (by simp) hp hr, rfl, rfl, rfl, ?_⟩
        by_cases h1 : x = 0
        · by_cases h2 : y = 0
          · by_cases h3 : z = 0
            · by_cases h4 : n = 0
              · simp [Tryz.f159, Flat0, h1, h2, h3, h4]
              · simp [Tryz.f159, Flat0, h1, h2, h3, h4]
            · have bz : (z == 0) = false := by simpa using h3
              simp [Tryz.f159, Flat0, h1, h2, h3, bz]
          · have byy : (y == 0) = false := by simpa using h2
            simp [Tryz.f159, Flat0, h1, h2, byy]
        · have bx : (x == 0) = false := by simpa using h1
          simp [Tryz.f159, Flat0, h1, bx]
      · simp [*] at h
    · simp [*] at h
  · simp at h
noncomputable def kin2LS : Sum := fun args env _ => match args with
  | [.agg [.int .i64 _kd, .int .i64 r, .int .i64 x, .int .i64 y, .int .i64 z, .slice p o1 n0 c], .ptr q 0] => match listE env (.slice p o1 n0 c), env q with
    | some (n, _f), some ⟨[.fn 159 []], _⟩ => open Classical in if InI r ∧ InI x ∧ InI y ∧ InI z then .val (.bool (decide (May1 r x y z ∧ n = 0))) [] [] else .fail
    | _, _ => .fail
  | _ => .fail
set_option maxHeartbeats 4000000 in
theorem kin2L_ok : SumOk Tryz.prog 160 kin2LS := by
  refine sum_read (L := fun _ => none) (n := 1) (S := stOf [(159, kin1LS)]) drawS Tryz.T_ok (stOf_ok (by simp [kin1L_ok])) Tryz.func160 rfl (by kernel_rfl) (by kernel_rfl) ?_
  intro args env nxt h
  unfold kin2LS at h ⊢
  split at h
  · rename_i kd r x y z p o1 n0 c q
    split at h
    · rename_i n f ty0 hl m0
      split at h
      · rename_i hc
        obtain ⟨hr, hx, hy, hz⟩ := id hc
        simp only [if_pos hc]
        obtain ⟨rfl, hnc, items, ty, hp, hri, ⟨o, F, hrow, hf⟩, hload⟩ := listE_slice hl
        have hE := listE_own hrow hf hnc
        have hne : p ≠ q := by
          rintro rfl
          rw [hp] at m0
          cases m0
          simp [rowB] at hrow
        refine ⟨_, _, _, .bool (decide (May1 r x y z ∧ n = 0)), laid2 [.agg [.int .i64 kd, .int .i64 r, .int .i64 x, .int .i64 y, .int .i64 z, .slice 0 o1 n c], .ptr 1 0] rfl (by simp) hp m0 hne hri rfl, rfl, rfl, rfl, ?_⟩
        have m1 : May1 r x y z ↔ 0 < r ∧ Flat0 x y z := Iff.rfl
        by_cases h1 : 0 < r
        · by_cases h3 : n = 0
          · subst h3
            by_cases h2 : Flat0 x y z <;> (simp [hx, hy, hz, kin1LS, hE, Tryz.f160, m1, h1, h2]; try exact two_same)
          · by_cases h2 : Flat0 x y z <;> (simp [hx, hy, hz, kin1LS, hE, Tryz.f160, m1, h1, h2, h3]; try exact two_same)
        · simp [Tryz.f160, m1, h1]
          try exact two_same
      · simp [*] at h
    · simp [*] at h
  · simp at h
noncomputable def kin4LS : Sum := fun args env _ => match args with
  | [.agg [.int .i64 _kd, .int .i64 r, .int .i64 x, .int .i64 y, .int .i64 z, .slice p o1 n0 c]] => match listE env (.slice p o1 n0 c) with
    | some (n, _f) => open Classical in if InI r ∧ InI x ∧ InI y ∧ InI z then .val (.bool (decide (May2 r x y z ∧ n = 0))) [] [] else .fail
    | none => .fail
  | _ => .fail
set_option maxHeartbeats 4000000 in
set_option maxRecDepth 100000 in
theorem kin4L_ok : SumOk Tryz.prog 162 kin4LS := by
  refine sum_read (L := fun _ => none) (n := 1) (S := stOf []) drawS Tryz.T_ok (stOf_ok (by simp)) Tryz.func162 rfl (by kernel_rfl) (by kernel_rfl) ?_
  intro args env nxt h
  unfold kin4LS at h ⊢
  split at h
  · rename_i kd r x y z p o1 n0 c 
    split at h
    · rename_i n f hl
      split at h
      · rename_i hc
        simp only [if_pos hc]
        obtain ⟨hr, hx, hy, hz⟩ := id hc
        obtain ⟨rfl, hnc, items, ty, hp, hr, ⟨o, F, hrow, hf⟩, hload⟩ := listE_slice hl
        have hE := listE_own hrow hf hnc
        have hE2 := listE_ownE hrow hf hnc
        refine ⟨_, _, _, .bool (decide (May2 r x y z ∧ n = 0)), laid1 [.agg [.int .i64 kd, .int .i64 r, .int .i64 x, .int .i64 y, .int .i64 z, .slice 0 o1 n c]] rfl (by simp) hp hr, rfl, rfl, rfl, ?_⟩
        by_cases h0 : 0 < r
        · by_cases h1 : x = 0
          · by_cases h2 : y = 0
            · by_cases h3 : 0 < z
              · by_cases h4 : n = 0
                · simp [Tryz.f162, May2, h0, h1, h2, h3, h4]
                · simp [Tryz.f162, May2, h0, h1, h2, h3, h4]
              · simp [Tryz.f162, May2, h0, h1, h2, h3]
            · have byy : (y == 0) = false := by simpa using h2
              simp [Tryz.f162, May2, h0, h1, h2, byy]
          · have bx : (x == 0) = false := by simpa using h1
            simp [Tryz.f162, May2, h0, h1, bx]
        · simp [Tryz.f162, May2, h0]
      · simp [*] at h
    · simp [*] at h
  · simp at h
noncomputable def kin6LS : Sum := fun args env _ => match args with
  | [.agg [.int .i64 _kd, .int .i64 r, .int .i64 x, .int .i64 y, .int .i64 z, .slice p o1 n0 c]] => match listE env (.slice p o1 n0 c) with
    | some (n, _f) => open Classical in if InI r ∧ InI x ∧ InI y ∧ InI z then .val (.bool (decide (May3 r x y z ∧ n = 0))) [] [] else .fail
    | none => .fail
  | _ => .fail
set_option maxHeartbeats 4000000 in
set_option maxRecDepth 100000 in
theorem kin6L_ok : SumOk Tryz.prog 164 kin6LS := by
  refine sum_read (L := fun _ => none) (n := 1) (S := stOf []) drawS Tryz.T_ok (stOf_ok (by simp)) Tryz.func164 rfl (by kernel_rfl) (by kernel_rfl) ?_
  intro args env nxt h
  unfold kin6LS at h ⊢
  split at h
  · rename_i kd r x y z p o1 n0 c 
    split at h
    · rename_i n f hl
      split at h
      · rename_i hc
        simp only [if_pos hc]
        obtain ⟨hr, hx, hy, hz⟩ := id hc
        obtain ⟨rfl, hnc, items, ty, hp, hr, ⟨o, F, hrow, hf⟩, hload⟩ := listE_slice hl
        have hE := listE_own hrow hf hnc
        have hE2 := listE_ownE hrow hf hnc
        refine ⟨_, _, _, .bool (decide (May3 r x y z ∧ n = 0)), laid1 [.agg [.int .i64 kd, .int .i64 r, .int .i64 x, .int .i64 y, .int .i64 z, .slice 0 o1 n c]] rfl (by simp) hp hr, rfl, rfl, rfl, ?_⟩
        by_cases h1 : 0 ≤ r
        · by_cases h2 : 65536 ≤ min3 x y z
          · by_cases h3 : n = 0 <;> simp [Tryz.f164, May3, min3_is, h1, h2, h3]
          · simp [Tryz.f164, May3, min3_is, h1, h2]
        · simp [Tryz.f164, May3, h1]
      · simp [*] at h
    · simp [*] at h
  · simp at h
noncomputable def kin7LS : Sum := fun args env _ => match args with
  | [.agg [.int .i64 _kd, .int .i64 r, .int .i64 x, .int .i64 y, .int .i64 z, .slice p o1 n0 c]] => match listE env (.slice p o1 n0 c) with
    | some (n, _f) => open Classical in if InI r ∧ InI x ∧ InI y ∧ InI z then .val (.bool (decide (0 ≤ r ∧ Flat0 x y z ∧ 4 ≤ n ∧ n ≤ 16))) [] [] else .fail
    | none => .fail
  | _ => .fail
set_option maxHeartbeats 4000000 in
set_option maxRecDepth 100000 in
theorem kin7L_ok : SumOk Tryz.prog 166 kin7LS := by
  refine sum_read (L := fun _ => none) (n := 1) (S := stOf []) drawS Tryz.T_ok (stOf_ok (by simp)) Tryz.func166 rfl (by kernel_rfl) (by kernel_rfl) ?_
  intro args env nxt h
  unfold kin7LS at h ⊢
  split at h
  · rename_i kd r x y z p o1 n0 c 
    split at h
    · rename_i n f hl
      split at h
      · rename_i hc
        simp only [if_pos hc]
        obtain ⟨hr, hx, hy, hz⟩ := id hc
        obtain ⟨rfl, hnc, items, ty, hp, hr, ⟨o, F, hrow, hf⟩, hload⟩ := listE_slice hl
        have hE := listE_own hrow hf hnc
        have hE2 := listE_ownE hrow hf hnc
        refine ⟨_, _, _, .bool (decide (0 ≤ r ∧ Flat0 x y z ∧ 4 ≤ n ∧ n ≤ 16)), laid1 [.agg [.int .i64 kd, .int .i64 r, .int .i64 x, .int .i64 y, .int .i64 z, .slice 0 o1 n c]] rfl (by simp) hp hr, rfl, rfl, rfl, ?_⟩
        by_cases h0 : 0 ≤ r
        · by_cases h1 : x = 0
          · by_cases h2 : y = 0
            · by_cases h3 : z = 0
              · by_cases h4 : 4 ≤ n
                · have h4' : (4 : Int) ≤ n := by omega
                  by_cases h5 : n ≤ 16
                  · have h5' : (n : Int) ≤ 16 := by omega
                    simp [Tryz.f166, Flat0, h0, h1, h2, h3, h4, h4', h5, h5']
                  · have h5' : ¬ (n : Int) ≤ 16 := by omega
                    simp [Tryz.f166, Flat0, h0, h1, h2, h3, h4, h4', h5, h5']
                · have h4' : ¬ (4 : Int) ≤ n := by omega
                  simp [Tryz.f166, Flat0, h0, h1, h2, h3, h4, h4']
              · have bz : (z == 0) = false := by simpa using h3
                simp [Tryz.f166, Flat0, h0, h1, h2, h3, bz]
            · have byy : (y == 0) = false := by simpa using h2
              simp [Tryz.f166, Flat0, h0, h1, h2, byy]
          · have bx : (x == 0) = false := by simpa using h1
            simp [Tryz.f166, Flat0, h0, h1, bx]
        · simp [Tryz.f166, h0]
      · simp [*] at h
    · simp [*] at h
  · simp at h
end Go.X
end

section
namespace Go.X
open Go.Proofs
attribute [local irreducible] Good
instance (a : Int) : Decidable (SmN a) := inferInstanceAs (Decidable (_ ∧ _))
noncomputable def r9fitsS : List AV → PR
  | [.int .i64 x] => open Classical in if InI x then .val (.bool (decide (SmN x))) else .fail
  | _ => .fail
@[simp] theorem r9fitsS_val {x : Int} (h : InI x) : r9fitsS [.int .i64 x] = .val (.bool (decide (SmN x))) := if_pos h
theorem r9fits_ok : SumOk Tryz.prog 114 (pureS r9fitsS) := by
  refine sum_fn (L := fun _ => none) (n := 1) (S := stOf []) drawS Tryz.T_ok (stOf_ok (by simp)) Tryz.func114 rfl (by kernel_rfl) (by kernel_rfl) ?_
    (by intro args v h; unfold r9fitsS at h; split at h <;> (try split at h) <;> simp at h)
  intro args v h
  unfold r9fitsS at h
  split at h
  · rename_i x
    split at h
    · rename_i hc
      have hx := hc
      cases h
      refine ⟨by simp, by simp, by simp, ?_⟩
      by_cases h1 : -274877906944 ≤ x
      · by_cases h2 : x ≤ 274877906944
        · simp [Tryz.f114, SmN, h1, h2]
        · simp [Tryz.f114, SmN, h1, h2]
      · simp [Tryz.f114, SmN, h1]
    · simp at h
  · simp at h
noncomputable def r9fitS : List AV → PR
  | [.agg [.int .i64 x, .int .i64 y, .int .i64 z]] => open Classical in if InI x ∧ InI y ∧ InI z then .val (.bool (decide (Size3 x y z))) else .fail
  | _ => .fail
@[simp] theorem r9fitS_val {x y z : Int} (h : InI x ∧ InI y ∧ InI z) : r9fitS [.agg [.int .i64 x, .int .i64 y, .int .i64 z]] = .val (.bool (decide (Size3 x y z))) := if_pos h
theorem r9fit_ok : SumOk Tryz.prog 115 (pureS r9fitS) := by
  refine sum_fn (L := fun _ => none) (n := 1) (S := stOf [(114, pureS r9fitsS)]) drawS Tryz.T_ok (stOf_ok (by simp [r9fits_ok])) Tryz.func115 rfl (by kernel_rfl) (by kernel_rfl) ?_
    (by intro args v h; unfold r9fitS at h; split at h <;> (try split at h) <;> simp at h)
  intro args v h
  unfold r9fitS at h
  split at h
  · rename_i x y z
    split at h
    · rename_i hc
      obtain ⟨hx, hy, hz⟩ := hc
      cases h
      refine ⟨by simp, by simp, by simp, ?_⟩
      have e : Size3 x y z ↔ SmN x ∧ SmN y ∧ SmN z := Iff.rfl
      by_cases h1 : SmN x
      · by_cases h2 : SmN y
        · by_cases h3 : SmN z
          · simp [hx, hy, hz, Tryz.f115, e, h1, h2, h3]
          · simp [hx, hy, hz, Tryz.f115, e, h1, h2, h3]
        · simp [hx, hy, Tryz.f115, e, h1, h2]
      · simp [hx, Tryz.f115, e, h1]
    · simp at h
  · simp at h
noncomputable def r9sizeS : List AV → PR
  | [.int .i64 x] => open Classical in if InI x ∧ InI (-x) then .val (.int .i64 (absI x)) else .fail
  | _ => .fail
@[simp] theorem r9sizeS_val {x : Int} (h : InI x ∧ InI (-x)) : r9sizeS [.int .i64 x] = .val (.int .i64 (absI x)) := if_pos h
theorem r9size_ok : SumOk Tryz.prog 94 (pureS r9sizeS) := by
  refine sum_fn (L := fun _ => none) (n := 1) (S := stOf []) drawS Tryz.T_ok (stOf_ok (by simp)) Tryz.func94 rfl (by kernel_rfl) (by kernel_rfl) ?_
    (by intro args v h; unfold r9sizeS at h; split at h <;> (try split at h) <;> simp at h)
  intro args v h
  unfold r9sizeS at h
  split at h
  · rename_i x
    split at h
    · rename_i hc
      obtain ⟨hx, e0⟩ := hc
      cases h
      refine ⟨by simp, by simp, by simp, ?_⟩
      have w1 : IntKind.i64.wrap (-x) = -x := wrap_i64_in (by unfold InI at *; omega) (by unfold InI at *; omega)
      by_cases h1 : x < 0
      · simp [Tryz.f94, absI, h1, w1]
      · simp [Tryz.f94, absI, h1]
    · simp at h
  · simp at h
end Go.X
end
