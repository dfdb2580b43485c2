/- Poses: where points are in them. -/
import Derived.Test.YtgfpllfimpgooaaGreatJT4
import Derived.Test.YtgfpllfimpgooaaGreatGF
namespace Go.X
open Go.Proofs
attribute [local irreducible] Good
attribute [simp] Tryz.T_33
attribute [simp] Tryz.T_99

/-- the greatest, the least of three, as they are told -/
def max3 (a b c : Int) : Int := if (if a < b then b else a) < c then c else if a < b then b else a
def min3 (a b c : Int) : Int := if c < (if b < a then b else a) then c else if b < a then b else a
theorem max3_is {a b c : Int} : (if (if a < b then b else a) < c then c else if a < b then b else a) = max3 a b c := rfl
theorem min3_is {a b c : Int} : (if c < (if b < a then b else a) then c else if b < a then b else a) = min3 a b c := rfl
/-- a place that may be -/
def Place (a b c : Int) : Prop := (-4398046511104 ≤ a ∧ a ≤ 4398046511104) ∧ (-4398046511104 ≤ b ∧ b ≤ 4398046511104) ∧ (-4398046511104 ≤ c ∧ c ≤ 4398046511104)
instance (a b c : Int) : Decidable (Place a b c) := inferInstanceAs (Decidable (_ ∧ _))
theorem place_iff {a b c : Int} : Place a b c ↔ ¬ (4398046511104 < max3 a b c) ∧ ¬ (min3 a b c < -4398046511104) := by
  unfold Place max3 min3
  constructor
  · intro h; constructor <;> (repeat' split) <;> omega
  · rintro ⟨h1, h2⟩
    revert h1 h2
    (repeat' split) <;> omega
/-- a point that may be asked -/
def Size3 (a b c : Int) : Prop := (-274877906944 ≤ a ∧ a ≤ 274877906944) ∧ (-274877906944 ≤ b ∧ b ≤ 274877906944) ∧ (-274877906944 ≤ c ∧ c ≤ 274877906944)
theorem size_iff {a b c : Int} : Size3 a b c ↔ ¬ (274877906944 < max3 a b c) ∧ ¬ (min3 a b c < -274877906944) := by
  unfold Size3 max3 min3
  constructor
  · intro h; constructor <;> (repeat' split) <;> omega
  · rintro ⟨h1, h2⟩
    revert h1 h2
    (repeat' split) <;> omega
/-- one new block that names none, handed back -/
theorem told_one {θ : List Nat} {m0 m' : List Blk} {nxt q : Nat} {v v' : AV} {blk : Blk} (h1 : θ.length ≤ q) (h2 : m'[q]? = some blk) (h3 : ∀ i, i < θ.length → m'[i]? = m0[i]?) (hb : refsL blk.items = [])
    (hv : v.ren (glob θ nxt [q]) = v') (hr : ∀ b ∈ refs v, b = q) (hu : v ≠ .undef) (h6 : ∀ i, i < θ.length → refsL (m0.getD i default).items = [] := by simp) :
    Told θ m0 m' nxt [q] none v (.val v' [] [blk]) := by
  have h4 : q < m'.length := by
    rcases Nat.lt_or_ge q m'.length with h | h
    · exact h
    · rw [List.getElem?_eq_none h] at h2; simp at h2
  have h5 : m'.getD q default = blk := by rw [List.getD_eq_getElem?_getD, h2]; rfl
  refine ⟨?_, by simp, by simp; omega, by omega, fun i hi _ => h3 i hi, by simp, fun b h => .inr (by simp [hr b h]), ?_, hu⟩
  · simp only [List.map_cons, List.map_nil, h5]
    rw [hv]
    simp only [upOf, glB]
    rw [renL_noref _ _ hb]
  · intro p hp b hb'
    rcases hp with hp | hp
    · have e : m'.getD p default = m0.getD p default := by rw [List.getD_eq_getElem?_getD, h3 p hp, ← List.getD_eq_getElem?_getD]
      rw [e, h6 p hp] at hb'
      simp at hb'
    · simp at hp
      subst hp
      rw [h5, hb] at hb'
      simp at hb'
theorem told_none {θ : List Nat} {m0 m' : List Blk} {nxt : Nat} {v : AV} (hl : θ.length ≤ m'.length) (h3 : ∀ i, i < θ.length → m'[i]? = m0[i]?) (hr : refs v = []) (hu : v ≠ .undef) (h6 : ∀ i, i < θ.length → refsL (m0.getD i default).items = [] := by simp) :
    Told θ m0 m' nxt [] none v (.val v [] []) := by
  refine ⟨by simp [upOf, ren_noref _ _ hr], by simp, by simp, hl, fun i h _ => h3 i h, by simp, by simp [hr], ?_, hu⟩
  intro p hp b hb'
  rcases hp with hp | hp
  · have e : m'.getD p default = m0.getD p default := by rw [List.getD_eq_getElem?_getD, h3 p hp, ← List.getD_eq_getElem?_getD]
    rw [e, h6 p hp] at hb'
    simp at hb'
  · simp at hp

noncomputable def prawS : List AV → PR
  | [.int .i64 a] => open Classical in if InI a then .val (W a) else .fail
  | _ => .fail
@[simp] theorem prawS_val {a : Int} (h : InI a) : prawS [.int .i64 a] = .val (W a) := if_pos h
theorem praw_ok : SumOk Tryz.prog 67 (pureS prawS) := by
  refine sum_fn (L := fun _ => none) (n := 1) (S := stOf [(105, pureS ofS)]) drawS Tryz.T_ok (stOf_ok (by simp [of_ok])) Tryz.func67 rfl (by kernel_rfl) (by kernel_rfl) ?_
    (by intro args v h; unfold prawS at h; split at h <;> (try split at h) <;> simp at h)
  intro args v h
  unfold prawS at h
  split at h
  · rename_i a
    split at h
    · rename_i hc
      have ha := hc
      cases h
      refine ⟨by simp, by simp, by simp, ?_⟩
      simp [Tryz.f67, ofS_in ha]
    · simp at h
  · simp at h

noncomputable def ptimesS : List AV → PR
  | [.arr .u64 8 f, .arr .u64 8 g] => open Classical in if R8 f ∧ R8 g ∧ InW (sval f * sval g) then .val (W (sval f * sval g)) else .fail
  | _ => .fail
@[simp] theorem ptimesS_val {f g : Nat → Int} (h : R8 f ∧ R8 g ∧ InW (sval f * sval g)) : ptimesS [.arr .u64 8 f, .arr .u64 8 g] = .val (W (sval f * sval g)) := if_pos h
theorem ptimes_ok : SumOk Tryz.prog 66 (pureS ptimesS) := by
  refine sum_fn (L := fun _ => none) (n := 1) (S := stOf [(128, pureS mulS)]) drawS Tryz.T_ok (stOf_ok (by simp [mul_ok])) Tryz.func66 rfl (by kernel_rfl) (by kernel_rfl) ?_
    (by intro args v h; unfold ptimesS at h; split at h <;> (try split at h) <;> simp at h)
  intro args v h
  unfold ptimesS at h
  split at h
  · rename_i f g
    split at h
    · rename_i hc
      obtain ⟨hf, hg, e0⟩ := hc
      cases h
      refine ⟨by simp, by simp, by simp, ?_⟩
      simp [Tryz.f66, hf, hg, e0, fitV]
    · simp at h
  · simp at h

noncomputable def plessS : List AV → PR
  | [.int .i64 a, .int .i64 b] => open Classical in if InI a ∧ InI b then .val (W (a - b)) else .fail
  | _ => .fail
@[simp] theorem plessS_val {a b : Int} (h : InI a ∧ InI b) : plessS [.int .i64 a, .int .i64 b] = .val (W (a - b)) := if_pos h
theorem pless_ok : SumOk Tryz.prog 68 (pureS plessS) := by
  refine sum_fn (L := fun _ => none) (n := 1) (S := stOf [(67, pureS prawS), (129, pureS subS)]) drawS Tryz.T_ok (stOf_ok (by simp [praw_ok, sub_ok])) Tryz.func68 rfl (by kernel_rfl) (by kernel_rfl) ?_
    (by intro args v h; unfold plessS at h; split at h <;> (try split at h) <;> simp at h)
  intro args v h
  unfold plessS at h
  split at h
  · rename_i a b
    split at h
    · rename_i hc
      obtain ⟨ha, hb⟩ := hc
      cases h
      refine ⟨by simp, by simp, by simp, ?_⟩
      have s1 := ((Bd.of ha).sub (Bd.of hb)).w (by decide)
      simp [Tryz.f68, ha, hb, fitI ha, fitI hb, R8_limb, fitV, s1]
    · simp at h
  · simp at h

noncomputable def pplus3S : Sum := fun args env _ => match args with
  | [.slice b 0 3 _] => match env b with
    | some ⟨[.arr .u64 8 f, .arr .u64 8 g, .arr .u64 8 k], _⟩ => open Classical in if R8 f ∧ R8 g ∧ R8 k ∧ InW (sval f + sval g) ∧ InW (sval f + sval g + sval k) then .val (W (sval f + sval g + sval k)) [] [] else .fail
    | _ => .fail
  | _ => .fail
theorem pplus3_ok : SumOk Tryz.prog 65 pplus3S := by
  refine sum_read (L := fun _ => none) (n := 5) (S := stOf [(127, pureS addS)]) drawS Tryz.T_ok (stOf_ok (by simp [add_ok])) Tryz.func65 rfl (by kernel_rfl) (by kernel_rfl) ?_
  intro args env nxt h
  unfold pplus3S at h ⊢
  split at h
  · rename_i b c
    split at h
    · rename_i f g k ty0 m0
      split at h
      · rename_i hc
        obtain ⟨hf, hg, hk, e0, e1⟩ := id hc
        refine ⟨_, _, _, W (sval f + sval g + sval k), laid1 [.slice 0 0 3 c] rfl (by simp) m0 rfl, by first | exact if_pos hc | (simp only [m0]; exact if_pos hc) | (simp [m0]; exact hc), by simp, by simp, ?_⟩
        have i1 : InW (sval f) := sval_range hf
        have j1 := sval_limb i1
        have i2 : InW (sval f + sval g) := by have := e0; exact this
        have j2 := sval_limb i2
        have i3 : InW (sval f + sval g + sval k) := by have := e1; exact this
        have j3 := sval_limb i3
        simp [Tryz.f65, hf, hg, hk, e0, e1, R8_limb, fitV, R8_zero, sval_zero, i1, j1, j2]
      · simp at h
    · simp at h
  · simp at h

noncomputable def pplus4S : Sum := fun args env _ => match args with
  | [.slice b 0 4 _] => match env b with
    | some ⟨[.arr .u64 8 f, .arr .u64 8 g, .arr .u64 8 k, .arr .u64 8 w], _⟩ => open Classical in if R8 f ∧ R8 g ∧ R8 k ∧ R8 w ∧ InW (sval f + sval g) ∧ InW (sval f + sval g + sval k) ∧ InW (sval f + sval g + sval k + sval w) then .val (W (sval f + sval g + sval k + sval w)) [] [] else .fail
    | _ => .fail
  | _ => .fail
theorem pplus4_ok : SumOk Tryz.prog 65 pplus4S := by
  refine sum_read (L := fun _ => none) (n := 6) (S := stOf [(127, pureS addS)]) drawS Tryz.T_ok (stOf_ok (by simp [add_ok])) Tryz.func65 rfl (by kernel_rfl) (by kernel_rfl) ?_
  intro args env nxt h
  unfold pplus4S at h ⊢
  split at h
  · rename_i b c
    split at h
    · rename_i f g k w ty0 m0
      split at h
      · rename_i hc
        obtain ⟨hf, hg, hk, hw, e0, e1, e2⟩ := id hc
        refine ⟨_, _, _, W (sval f + sval g + sval k + sval w), laid1 [.slice 0 0 4 c] rfl (by simp) m0 rfl, by first | exact if_pos hc | (simp only [m0]; exact if_pos hc) | (simp [m0]; exact hc), by simp, by simp, ?_⟩
        have i1 : InW (sval f) := sval_range hf
        have j1 := sval_limb i1
        have i2 : InW (sval f + sval g) := by have := e0; exact this
        have j2 := sval_limb i2
        have i3 : InW (sval f + sval g + sval k) := by have := e1; exact this
        have j3 := sval_limb i3
        have i4 : InW (sval f + sval g + sval k + sval w) := by have := e2; exact this
        have j4 := sval_limb i4
        simp [Tryz.f65, hf, hg, hk, hw, e0, e1, e2, R8_limb, fitV, R8_zero, sval_zero, i1, j1, j2, j3]
      · simp at h
    · simp at h
  · simp at h

noncomputable def pout1S : Sum := fun args env _ => match args with
  | [.agg [.int .i64 r1, .int .i64 r2, .int .i64 r3], .int .i64 p1, .ptr v 0] => match env v with
    | some ⟨[.int .i64 y1, .int .i64 y2, .int .i64 y3], _⟩ => open Classical in if InI r1 ∧ InI r2 ∧ InI r3 ∧ InI p1 ∧ InI y1 ∧ InI y2 ∧ InI y3 then .val (.int .i64 (clampI ((p1 * 4294967296 + r1 * y1 + r2 * y2 + r3 * y3) / 4294967296))) [] [] else .fail
    | _ => .fail
  | _ => .fail
set_option maxHeartbeats 4000000 in
theorem pout1_ok : SumOk Tryz.prog 121 pout1S := by
  refine sum_read (L := fun _ => none) (n := 1) (S := stOf [(64, pureS finS), (65, pplus4S), (67, pureS prawS), (66, pureS ptimesS), (122, pureS shlS)]) drawS Tryz.T_ok (stOf_ok (by simp [fin_ok, pplus4_ok, praw_ok, ptimes_ok, shl_ok])) Tryz.func121 rfl (by kernel_rfl) (by kernel_rfl) ?_
  intro args env nxt h
  unfold pout1S at h ⊢
  split at h
  · rename_i r1 r2 r3 p1 v
    split at h
    · rename_i y1 y2 y3 ty0 m0
      split at h
      · rename_i hc
        obtain ⟨hr1, hr2, hr3, hp1, hy1, hy2, hy3⟩ := id hc
        refine ⟨_, _, _, .int .i64 (clampI ((p1 * 4294967296 + r1 * y1 + r2 * y2 + r3 * y3) / 4294967296)), laid1 [.agg [.int .i64 r1, .int .i64 r2, .int .i64 r3], .int .i64 p1, .ptr 0 0] rfl (by simp) m0 rfl, by first | exact if_pos hc | (simp only [m0]; exact if_pos hc) | (simp [m0]; exact hc), by simp, by simp, ?_⟩
        have s1 : Bd 95 (p1 * 4294967296) := by simpa using (Bd.of hp1).shl 32
        have w0 := s1.w (by decide)
        have t1 := (Bd.of hr1).mul (Bd.of hy1)
        have t2 := (Bd.of hr2).mul (Bd.of hy2)
        have t3 := (Bd.of hr3).mul (Bd.of hy3)
        have w1 := t1.w (by decide)
        have w2 := t2.w (by decide)
        have w3 := t3.w (by decide)
        have u1 : Bd 127 (p1 * 4294967296 + r1 * y1) := (s1.mono (by decide)).add t1
        have u2 : Bd 128 (p1 * 4294967296 + r1 * y1 + r2 * y2) := u1.add (t2.mono (by decide))
        have u3 : Bd 129 (p1 * 4294967296 + r1 * y1 + r2 * y2 + r3 * y3) := u2.add (t3.mono (by decide))
        have w4 := u1.w (by decide)
        have w5 := u2.w (by decide)
        have w6 := u3.w (by decide)
        have eq1 : p1 * 4294967296 + (r1 * y1 + r2 * y2 + r3 * y3) = p1 * 4294967296 + r1 * y1 + r2 * y2 + r3 * y3 := by omega
        simp [Tryz.f121, hr1, hr2, hr3, hp1, hy1, hy2, hy3, R8_limb, shlV, fitV, pplus4S, w0, sval_limb w0, w1, sval_limb w1, w2, sval_limb w2, w3, sval_limb w3, w4, w5, w6, sval_limb w6, sval_limb (InI.w hp1), sval_limb (InI.w hr1), sval_limb (InI.w hr2), sval_limb (InI.w hr3), sval_limb (InI.w hy1), sval_limb (InI.w hy2), sval_limb (InI.w hy3)]
      · simp at h
    · simp at h
  · simp at h

noncomputable def poutS : Sum := fun args env _ => match args with
  | [.ptr g 0, .agg [.int .i64 x, .int .i64 y, .int .i64 z]] => match env g with
    | some ⟨[.int .i64 p1, .int .i64 p2, .int .i64 p3, .int .i64 _q0, .int .i64 _q1, .int .i64 _q2, .int .i64 _q3, .int .i64 m00, .int .i64 m01, .int .i64 m02, .int .i64 m10, .int .i64 m11, .int .i64 m12, .int .i64 m20, .int .i64 m21, .int .i64 m22], _⟩ => open Classical in if InI x ∧ InI y ∧ InI z ∧ InI p1 ∧ InI p2 ∧ InI p3 ∧ InI m00 ∧ InI m01 ∧ InI m02 ∧ InI m10 ∧ InI m11 ∧ InI m12 ∧ InI m20 ∧ InI m21 ∧ InI m22 then .val (.agg [.int .i64 (clampI ((p1 * 4294967296 + m00 * x + m01 * y + m02 * z) / 4294967296)), .int .i64 (clampI ((p2 * 4294967296 + m10 * x + m11 * y + m12 * z) / 4294967296)), .int .i64 (clampI ((p3 * 4294967296 + m20 * x + m21 * y + m22 * z) / 4294967296))]) [] [] else .fail
    | _ => .fail
  | _ => .fail
set_option maxHeartbeats 4000000 in
theorem pout_ok : SumOk Tryz.prog 61 poutS := by
  refine sum_read (L := fun i => if i = 2 then some (.quiet 43) else none) (n := 1) (S := stOf [(121, pout1S)]) drawS Tryz.T_ok (stOf_ok (by simp [pout1_ok])) Tryz.func61 rfl (by kernel_rfl) (by kernel_rfl) ?_
  intro args env nxt h
  unfold poutS at h ⊢
  split at h
  · rename_i g x y z
    split at h
    · rename_i p1 p2 p3 q0 q1 q2 q3 m00 m01 m02 m10 m11 m12 m20 m21 m22 ty0 m0
      split at h
      · rename_i hc
        obtain ⟨hx, hy, hz, hp1, hp2, hp3, hm00, hm01, hm02, hm10, hm11, hm12, hm20, hm21, hm22⟩ := id hc
        refine ⟨_, _, _, .agg [.int .i64 (clampI ((p1 * 4294967296 + m00 * x + m01 * y + m02 * z) / 4294967296)), .int .i64 (clampI ((p2 * 4294967296 + m10 * x + m11 * y + m12 * z) / 4294967296)), .int .i64 (clampI ((p3 * 4294967296 + m20 * x + m21 * y + m22 * z) / 4294967296))], laid1 [.ptr 0 0, .agg [.int .i64 x, .int .i64 y, .int .i64 z]] rfl (by simp) m0 rfl, by first | exact if_pos hc | (simp only [m0]; exact if_pos hc) | (simp [m0]; exact hc), by simp, by simp, ?_⟩
        simp (maxSteps := 10000000) [Tryz.f61, hx, hy, hz, hp1, hp2, hp3, hm00, hm01, hm02, hm10, hm11, hm12, hm20, hm21, hm22, pout1S]
      · simp at h
    · simp at h
  · simp at h

noncomputable def pCheckS : List AV → PR
  | [.agg [.int .i64 p1, .int .i64 p2, .int .i64 p3, .int .i64 q0, .int .i64 q1, .int .i64 q2, .int .i64 q3]] => open Classical in if InI p1 ∧ InI p2 ∧ InI p3 ∧ InI q0 ∧ InI q1 ∧ InI q2 ∧ InI q3 then .val (.int .i64 (if Place p1 p2 p3 then (if TurnP q0 q1 q2 q3 then 0 else 9) else 7)) else .fail
  | _ => .fail
@[simp] theorem pCheckS_val {p1 p2 p3 q0 q1 q2 q3 : Int} (h : InI p1 ∧ InI p2 ∧ InI p3 ∧ InI q0 ∧ InI q1 ∧ InI q2 ∧ InI q3) : pCheckS [.agg [.int .i64 p1, .int .i64 p2, .int .i64 p3, .int .i64 q0, .int .i64 q1, .int .i64 q2, .int .i64 q3]] = .val (.int .i64 (if Place p1 p2 p3 then (if TurnP q0 q1 q2 q3 then 0 else 9) else 7)) := if_pos h
theorem pCheck_ok : SumOk Tryz.prog 58 (pureS pCheckS) := by
  refine sum_fn (L := fun _ => none) (n := 1) (S := stOf [(113, pureS qcheckS)]) drawS Tryz.T_ok (stOf_ok (by simp [qcheck_ok])) Tryz.func58 rfl (by kernel_rfl) (by kernel_rfl) ?_
    (by intro args v h; unfold pCheckS at h; split at h <;> (try split at h) <;> simp at h)
  intro args v h
  unfold pCheckS at h
  split at h
  · rename_i p1 p2 p3 q0 q1 q2 q3
    split at h
    · rename_i hc
      obtain ⟨hp1, hp2, hp3, hq0, hq1, hq2, hq3⟩ := hc
      cases h
      refine ⟨by simp, by simp, by simp, ?_⟩
      by_cases pl : Place p1 p2 p3
      · have pl2 := place_iff.1 pl
        by_cases tt : TurnP q0 q1 q2 q3
        · simp (maxSteps := 10000000) [hq0, hq1, hq2, hq3, Tryz.f58, max3_is, min3_is, pl, pl2.1, pl2.2, tt]
        · simp (maxSteps := 10000000) [hq0, hq1, hq2, hq3, Tryz.f58, max3_is, min3_is, pl, pl2.1, pl2.2, tt]
      · have pl2 : 4398046511104 < max3 p1 p2 p3 ∨ min3 p1 p2 p3 < -4398046511104 := by
          rw [place_iff] at pl; omega
        rcases Decidable.em (4398046511104 < max3 p1 p2 p3) with k1 | k1
        · simp (maxSteps := 10000000) [Tryz.f58, max3_is, pl, k1]
        · have k2 := pl2.resolve_left k1
          simp (maxSteps := 10000000) [Tryz.f58, max3_is, min3_is, pl, k1, k2]
    · simp at h
  · simp at h

noncomputable def pofS : Sum := fun args _ nxt => match args with
  | [.agg [.int .i64 p1, .int .i64 p2, .int .i64 p3, .int .i64 q0, .int .i64 q1, .int .i64 q2, .int .i64 q3]] => open Classical in if InI p1 ∧ InI p2 ∧ InI p3 ∧ InI q0 ∧ InI q1 ∧ InI q2 ∧ InI q3 then (if Place p1 p2 p3 ∧ TurnP q0 q1 q2 q3 then .val (.tup [.ptr nxt 0, .int .i64 0]) [] [⟨[.int .i64 p1, .int .i64 p2, .int .i64 p3, .int .i64 q0, .int .i64 q1, .int .i64 q2, .int .i64 q3, .int .i64 (clampI (quoI (r00 q0 q1 q2 q3 * 4294967296) (sq4 q0 q1 q2 q3))), .int .i64 (clampI (quoI (r01 q0 q1 q2 q3 * 4294967296) (sq4 q0 q1 q2 q3))), .int .i64 (clampI (quoI (r02 q0 q1 q2 q3 * 4294967296) (sq4 q0 q1 q2 q3))), .int .i64 (clampI (quoI (r10 q0 q1 q2 q3 * 4294967296) (sq4 q0 q1 q2 q3))), .int .i64 (clampI (quoI (r11 q0 q1 q2 q3 * 4294967296) (sq4 q0 q1 q2 q3))), .int .i64 (clampI (quoI (r12 q0 q1 q2 q3 * 4294967296) (sq4 q0 q1 q2 q3))), .int .i64 (clampI (quoI (r20 q0 q1 q2 q3 * 4294967296) (sq4 q0 q1 q2 q3))), .int .i64 (clampI (quoI (r21 q0 q1 q2 q3 * 4294967296) (sq4 q0 q1 q2 q3))), .int .i64 (clampI (quoI (r22 q0 q1 q2 q3 * 4294967296) (sq4 q0 q1 q2 q3)))], 99⟩] else .val (.tup [.nilptr, .int .i64 (if Place p1 p2 p3 then (if TurnP q0 q1 q2 q3 then 0 else 9) else 7)]) [] []) else .fail
  | _ => .fail
set_option maxHeartbeats 4000000 in
theorem pof_ok : SumOk Tryz.prog 60 pofS := by
  refine sum_mem (L := fun _ => none) (n := 1) (S := stOf [(58, pureS pCheckS), (120, pureS qMatrixS)]) drawS Tryz.T_ok (stOf_ok (by simp [pCheck_ok, qMatrix_ok])) Tryz.func60 rfl (by kernel_rfl) (by kernel_rfl) ?_
  intro args env nxt h
  unfold pofS at h ⊢
  split at h
  · rename_i p1 p2 p3 q0 q1 q2 q3
    split at h
    · rename_i hcond
      obtain ⟨hp1, hp2, hp3, hq0, hq1, hq2, hq3⟩ := id hcond
      refine ⟨[.agg [.int .i64 p1, .int .i64 p2, .int .i64 p3, .int .i64 q0, .int .i64 q1, .int .i64 q2, .int .i64 q3]], [], [], ⟨rfl, rfl, by simp, by simp, by simp, by simp⟩, ?_⟩
      by_cases pl : Place p1 p2 p3
      · by_cases tt : TurnP q0 q1 q2 q3
        · simp (maxSteps := 10000000) [Tryz.f60, hp1, hp2, hp3, hq0, hq1, hq2, hq3, pl, tt]
          exact ⟨[2], none, told_one (by simp) rfl (by simp) (by simp) (by simp [AV.ren, renL, glob]) (by simp) (by simp)⟩
        · simp (maxSteps := 10000000) [Tryz.f60, hp1, hp2, hp3, hq0, hq1, hq2, hq3, pl, tt]
          exact ⟨[], none, told_none (by simp) (by simp) (by simp) (by simp)⟩
      · simp (maxSteps := 10000000) [Tryz.f60, hp1, hp2, hp3, hq0, hq1, hq2, hq3, pl]
        exact ⟨[], none, told_none (by simp) (by simp) (by simp) (by simp)⟩
    · simp at h
  · simp at h

noncomputable def pOutS : List AV → PR
  | [.agg [.int .i64 p1, .int .i64 p2, .int .i64 p3, .int .i64 q0, .int .i64 q1, .int .i64 q2, .int .i64 q3], .agg [.int .i64 x, .int .i64 y, .int .i64 z]] => open Classical in if InI p1 ∧ InI p2 ∧ InI p3 ∧ InI q0 ∧ InI q1 ∧ InI q2 ∧ InI q3 ∧ InI x ∧ InI y ∧ InI z then .val (if Place p1 p2 p3 ∧ TurnP q0 q1 q2 q3 then .tup [.agg [.int .i64 (clampI ((p1 * 4294967296 + clampI (quoI (r00 q0 q1 q2 q3 * 4294967296) (sq4 q0 q1 q2 q3)) * x + clampI (quoI (r01 q0 q1 q2 q3 * 4294967296) (sq4 q0 q1 q2 q3)) * y + clampI (quoI (r02 q0 q1 q2 q3 * 4294967296) (sq4 q0 q1 q2 q3)) * z) / 4294967296)), .int .i64 (clampI ((p2 * 4294967296 + clampI (quoI (r10 q0 q1 q2 q3 * 4294967296) (sq4 q0 q1 q2 q3)) * x + clampI (quoI (r11 q0 q1 q2 q3 * 4294967296) (sq4 q0 q1 q2 q3)) * y + clampI (quoI (r12 q0 q1 q2 q3 * 4294967296) (sq4 q0 q1 q2 q3)) * z) / 4294967296)), .int .i64 (clampI ((p3 * 4294967296 + clampI (quoI (r20 q0 q1 q2 q3 * 4294967296) (sq4 q0 q1 q2 q3)) * x + clampI (quoI (r21 q0 q1 q2 q3 * 4294967296) (sq4 q0 q1 q2 q3)) * y + clampI (quoI (r22 q0 q1 q2 q3 * 4294967296) (sq4 q0 q1 q2 q3)) * z) / 4294967296))], .int .i64 0] else .tup [.agg [.int .i64 0, .int .i64 0, .int .i64 0], .int .i64 (if Place p1 p2 p3 then (if TurnP q0 q1 q2 q3 then 0 else 9) else 7)]) else .fail
  | _ => .fail
@[simp] theorem pOutS_val {p1 p2 p3 q0 q1 q2 q3 x y z : Int} (h : InI p1 ∧ InI p2 ∧ InI p3 ∧ InI q0 ∧ InI q1 ∧ InI q2 ∧ InI q3 ∧ InI x ∧ InI y ∧ InI z) : pOutS [.agg [.int .i64 p1, .int .i64 p2, .int .i64 p3, .int .i64 q0, .int .i64 q1, .int .i64 q2, .int .i64 q3], .agg [.int .i64 x, .int .i64 y, .int .i64 z]] = .val (if Place p1 p2 p3 ∧ TurnP q0 q1 q2 q3 then .tup [.agg [.int .i64 (clampI ((p1 * 4294967296 + clampI (quoI (r00 q0 q1 q2 q3 * 4294967296) (sq4 q0 q1 q2 q3)) * x + clampI (quoI (r01 q0 q1 q2 q3 * 4294967296) (sq4 q0 q1 q2 q3)) * y + clampI (quoI (r02 q0 q1 q2 q3 * 4294967296) (sq4 q0 q1 q2 q3)) * z) / 4294967296)), .int .i64 (clampI ((p2 * 4294967296 + clampI (quoI (r10 q0 q1 q2 q3 * 4294967296) (sq4 q0 q1 q2 q3)) * x + clampI (quoI (r11 q0 q1 q2 q3 * 4294967296) (sq4 q0 q1 q2 q3)) * y + clampI (quoI (r12 q0 q1 q2 q3 * 4294967296) (sq4 q0 q1 q2 q3)) * z) / 4294967296)), .int .i64 (clampI ((p3 * 4294967296 + clampI (quoI (r20 q0 q1 q2 q3 * 4294967296) (sq4 q0 q1 q2 q3)) * x + clampI (quoI (r21 q0 q1 q2 q3 * 4294967296) (sq4 q0 q1 q2 q3)) * y + clampI (quoI (r22 q0 q1 q2 q3 * 4294967296) (sq4 q0 q1 q2 q3)) * z) / 4294967296))], .int .i64 0] else .tup [.agg [.int .i64 0, .int .i64 0, .int .i64 0], .int .i64 (if Place p1 p2 p3 then (if TurnP q0 q1 q2 q3 then 0 else 9) else 7)]) := if_pos h
set_option maxHeartbeats 40000000 in
theorem pOut_ok : SumOk Tryz.prog 17 (pureS pOutS) := by
  refine sum_fn (L := fun _ => none) (n := 1) (S := stOf [(60, pofS), (61, poutS)]) drawS Tryz.T_ok (stOf_ok (by simp [pof_ok, pout_ok])) Tryz.func17 rfl (by kernel_rfl) (by kernel_rfl) ?_
    (by intro args v h; unfold pOutS at h; split at h <;> (try split at h) <;> simp at h)
  intro args v h
  unfold pOutS at h
  split at h
  · rename_i p1 p2 p3 q0 q1 q2 q3 x y z
    split at h
    · rename_i hc
      obtain ⟨hp1, hp2, hp3, hq0, hq1, hq2, hq3, hx, hy, hz⟩ := hc
      cases h
      refine ⟨by simp, by (split <;> simp), by (split <;> simp), ?_⟩
      by_cases pl : Place p1 p2 p3
      · by_cases tt : TurnP q0 q1 q2 q3
        · simp (maxSteps := 10000000) [hp1, hp2, hp3, hq0, hq1, hq2, hq3, hx, hy, hz, pofS, poutS, InI_clamp, Tryz.f17, pl, tt]
        · simp (maxSteps := 10000000) [hp1, hp2, hp3, hq0, hq1, hq2, hq3, pofS, Tryz.f17, pl, tt]
      · simp (maxSteps := 10000000) [hp1, hp2, hp3, hq0, hq1, hq2, hq3, pofS, Tryz.f17, pl]
    · simp at h
  · simp at h

noncomputable def pin1S : Sum := fun args env _ => match args with
  | [.agg [.int .i64 r1, .int .i64 r2, .int .i64 r3], .ptr v 0, .ptr w 0] => match env v, env w with
    | some ⟨[.int .i64 y1, .int .i64 y2, .int .i64 y3], _⟩, some ⟨[.int .i64 p1, .int .i64 p2, .int .i64 p3, .int .i64 _q0, .int .i64 _q1, .int .i64 _q2, .int .i64 _q3], _⟩ => open Classical in if InI r1 ∧ InI r2 ∧ InI r3 ∧ InI y1 ∧ InI y2 ∧ InI y3 ∧ InI p1 ∧ InI p2 ∧ InI p3 ∧ v ≠ w then .val (.int .i64 (clampI ((r1 * (y1 - p1) + r2 * (y2 - p2) + r3 * (y3 - p3)) / 4294967296))) [] [] else .fail
    | _, _ => .fail
  | _ => .fail
set_option maxHeartbeats 4000000 in
theorem pin1_ok : SumOk Tryz.prog 63 pin1S := by
  refine sum_read (L := fun _ => none) (n := 1) (S := stOf [(64, pureS finS), (68, pureS plessS), (65, pplus3S), (67, pureS prawS), (66, pureS ptimesS)]) drawS Tryz.T_ok (stOf_ok (by simp [fin_ok, pless_ok, pplus3_ok, praw_ok, ptimes_ok])) Tryz.func63 rfl (by kernel_rfl) (by kernel_rfl) ?_
  intro args env nxt h
  unfold pin1S at h ⊢
  split at h
  · rename_i r1 r2 r3 v w
    split at h
    · rename_i y1 y2 y3 ty0 p1 p2 p3 q0 q1 q2 q3 ty1 m0 m1
      split at h
      · rename_i hc
        obtain ⟨hr1, hr2, hr3, hy1, hy2, hy3, hp1, hp2, hp3, hne⟩ := id hc
        refine ⟨_, _, _, .int .i64 (clampI ((r1 * (y1 - p1) + r2 * (y2 - p2) + r3 * (y3 - p3)) / 4294967296)), laid2 [.agg [.int .i64 r1, .int .i64 r2, .int .i64 r3], .ptr 0 0, .ptr 1 0] rfl (by simp) m0 m1 hne rfl rfl, by first | exact if_pos hc | (simp only [m0, m1]; exact if_pos hc) | (simp [m0, m1]; exact hc), by simp, by simp, ?_⟩
        have d1 := (Bd.of hy1).sub (Bd.of hp1)
        have d2 := (Bd.of hy2).sub (Bd.of hp2)
        have d3 := (Bd.of hy3).sub (Bd.of hp3)
        have t1 := (Bd.of hr1).mul d1
        have t2 := (Bd.of hr2).mul d2
        have t3 := (Bd.of hr3).mul d3
        have v1 := d1.w (by decide)
        have v2 := d2.w (by decide)
        have v3 := d3.w (by decide)
        have w1 := t1.w (by decide)
        have w2 := t2.w (by decide)
        have w3 := t3.w (by decide)
        have u1 := t1.add t2
        have u2 := u1.add (t3.mono (by decide))
        have w4 := u1.w (by decide)
        have w5 := u2.w (by decide)
        simp [Tryz.f63, hr1, hr2, hr3, hy1, hy2, hy3, hp1, hp2, hp3, R8_limb, pplus3S, w1, sval_limb w1, w2, sval_limb w2, w3, sval_limb w3, w4, w5, sval_limb w5, sval_limb v1, sval_limb v2, sval_limb v3, sval_limb (InI.w hr1), sval_limb (InI.w hr2), sval_limb (InI.w hr3)]
      · simp at h
    · simp at h
  · simp at h

noncomputable def pInS : List AV → PR
  | [.agg [.int .i64 p1, .int .i64 p2, .int .i64 p3, .int .i64 q0, .int .i64 q1, .int .i64 q2, .int .i64 q3], .agg [.int .i64 x, .int .i64 y, .int .i64 z]] => open Classical in if InI p1 ∧ InI p2 ∧ InI p3 ∧ InI q0 ∧ InI q1 ∧ InI q2 ∧ InI q3 ∧ InI x ∧ InI y ∧ InI z then .val (if Place p1 p2 p3 ∧ TurnP q0 q1 q2 q3 then .tup [.agg [.int .i64 (clampI ((clampI (quoI (r00 q0 q1 q2 q3 * 4294967296) (sq4 q0 q1 q2 q3)) * (x - p1) + clampI (quoI (r10 q0 q1 q2 q3 * 4294967296) (sq4 q0 q1 q2 q3)) * (y - p2) + clampI (quoI (r20 q0 q1 q2 q3 * 4294967296) (sq4 q0 q1 q2 q3)) * (z - p3)) / 4294967296)), .int .i64 (clampI ((clampI (quoI (r01 q0 q1 q2 q3 * 4294967296) (sq4 q0 q1 q2 q3)) * (x - p1) + clampI (quoI (r11 q0 q1 q2 q3 * 4294967296) (sq4 q0 q1 q2 q3)) * (y - p2) + clampI (quoI (r21 q0 q1 q2 q3 * 4294967296) (sq4 q0 q1 q2 q3)) * (z - p3)) / 4294967296)), .int .i64 (clampI ((clampI (quoI (r02 q0 q1 q2 q3 * 4294967296) (sq4 q0 q1 q2 q3)) * (x - p1) + clampI (quoI (r12 q0 q1 q2 q3 * 4294967296) (sq4 q0 q1 q2 q3)) * (y - p2) + clampI (quoI (r22 q0 q1 q2 q3 * 4294967296) (sq4 q0 q1 q2 q3)) * (z - p3)) / 4294967296))], .int .i64 0] else .tup [.agg [.int .i64 0, .int .i64 0, .int .i64 0], .int .i64 (if Place p1 p2 p3 then (if TurnP q0 q1 q2 q3 then 0 else 9) else 7)]) else .fail
  | _ => .fail
@[simp] theorem pInS_val {p1 p2 p3 q0 q1 q2 q3 x y z : Int} (h : InI p1 ∧ InI p2 ∧ InI p3 ∧ InI q0 ∧ InI q1 ∧ InI q2 ∧ InI q3 ∧ InI x ∧ InI y ∧ InI z) : pInS [.agg [.int .i64 p1, .int .i64 p2, .int .i64 p3, .int .i64 q0, .int .i64 q1, .int .i64 q2, .int .i64 q3], .agg [.int .i64 x, .int .i64 y, .int .i64 z]] = .val (if Place p1 p2 p3 ∧ TurnP q0 q1 q2 q3 then .tup [.agg [.int .i64 (clampI ((clampI (quoI (r00 q0 q1 q2 q3 * 4294967296) (sq4 q0 q1 q2 q3)) * (x - p1) + clampI (quoI (r10 q0 q1 q2 q3 * 4294967296) (sq4 q0 q1 q2 q3)) * (y - p2) + clampI (quoI (r20 q0 q1 q2 q3 * 4294967296) (sq4 q0 q1 q2 q3)) * (z - p3)) / 4294967296)), .int .i64 (clampI ((clampI (quoI (r01 q0 q1 q2 q3 * 4294967296) (sq4 q0 q1 q2 q3)) * (x - p1) + clampI (quoI (r11 q0 q1 q2 q3 * 4294967296) (sq4 q0 q1 q2 q3)) * (y - p2) + clampI (quoI (r21 q0 q1 q2 q3 * 4294967296) (sq4 q0 q1 q2 q3)) * (z - p3)) / 4294967296)), .int .i64 (clampI ((clampI (quoI (r02 q0 q1 q2 q3 * 4294967296) (sq4 q0 q1 q2 q3)) * (x - p1) + clampI (quoI (r12 q0 q1 q2 q3 * 4294967296) (sq4 q0 q1 q2 q3)) * (y - p2) + clampI (quoI (r22 q0 q1 q2 q3 * 4294967296) (sq4 q0 q1 q2 q3)) * (z - p3)) / 4294967296))], .int .i64 0] else .tup [.agg [.int .i64 0, .int .i64 0, .int .i64 0], .int .i64 (if Place p1 p2 p3 then (if TurnP q0 q1 q2 q3 then 0 else 9) else 7)]) := if_pos h
set_option maxHeartbeats 40000000 in
theorem pIn_ok : SumOk Tryz.prog 18 (pureS pInS) := by
  refine sum_fn (L := fun i => if i = 6 then some (.quiet 16) else none) (n := 1) (S := stOf [(60, pofS), (62, pureS mturnedS), (63, pin1S)]) drawS Tryz.T_ok (stOf_ok (by simp [pof_ok, mturned_ok, pin1_ok])) Tryz.func18 rfl (by kernel_rfl) (by kernel_rfl) ?_
    (by intro args v h; unfold pInS at h; split at h <;> (try split at h) <;> simp at h)
  intro args v h
  unfold pInS at h
  split at h
  · rename_i p1 p2 p3 q0 q1 q2 q3 x y z
    split at h
    · rename_i hc
      obtain ⟨hp1, hp2, hp3, hq0, hq1, hq2, hq3, hx, hy, hz⟩ := hc
      cases h
      refine ⟨by simp, by (split <;> simp), by (split <;> simp), ?_⟩
      by_cases pl : Place p1 p2 p3
      · by_cases tt : TurnP q0 q1 q2 q3
        · simp (maxSteps := 10000000) [hp1, hp2, hp3, hq0, hq1, hq2, hq3, hx, hy, hz, pofS, pin1S, InI_clamp, Tryz.f18, pl, tt]
        · simp (maxSteps := 10000000) [hp1, hp2, hp3, hq0, hq1, hq2, hq3, pofS, Tryz.f18, pl, tt]
      · simp (maxSteps := 10000000) [hp1, hp2, hp3, hq0, hq1, hq2, hq3, pofS, Tryz.f18, pl]
    · simp at h
  · simp at h

end Go.X
