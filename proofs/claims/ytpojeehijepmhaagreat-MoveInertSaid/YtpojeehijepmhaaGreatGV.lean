/- Quaternions; poses. -/
import Derived.Test.YtpojeehijepmhaaGreatGU
import Derived.Test.YtpojeehijepmhaaGreatGF

section
namespace Go.X
end Go.X
end

section
namespace Go.X
open Go.Proofs
attribute [local irreducible] Good
def NearOne (z w : Int) : Prop := z - 18446744073709551616 ≤ w ∧ 18446744073709551616 - z ≤ w
instance (z w : Int) : Decidable (NearOne z w) := inferInstanceAs (Decidable (_ ∧ _))
end Go.X
end

section
namespace Go.X
open Go.Proofs
attribute [local irreducible] Good
end Go.X
end

section
namespace Go.X
end Go.X
end

section
namespace Go.X
end Go.X
end

section
namespace Go.X
open Go.Proofs
attribute [local irreducible] Good
def betw (a l h : Int) : Int := if a < l then l else if h < a then h else a
noncomputable def fclampS : List AV → PR
  | [.int .i64 a, .int .i64 l, .int .i64 k] => open Classical in if l ≤ k then .val (.int .i64 (betw a l k)) else .fail
  | _ => .fail
@[simp] theorem fclampS_val {a l k : Int} (h : l ≤ k) : fclampS [.int .i64 a, .int .i64 l, .int .i64 k] = .val (.int .i64 (betw a l k)) := if_pos h
theorem fclamp_ok : SumOk Tryz.prog 64 (pureS fclampS) := by
  refine sum_fn (L := fun _ => none) (n := 1) (S := stOf []) drawS Tryz.T_ok (stOf_ok (by simp)) Tryz.func64 rfl (by kernel_rfl) (by kernel_rfl) ?_
    (by intro args v h; unfold fclampS at h; split at h <;> (try split at h) <;> simp at h)
  intro args v h
  unfold fclampS at h
  split at h
  · rename_i a l k
    split at h
    · rename_i hc
      have e0 := hc
      cases h
      refine ⟨by simp, by simp, by simp, ?_⟩
      by_cases h1 : a < l
      · simp [Tryz.f64, betw, h1]
      · by_cases h2 : k < a
        · simp [Tryz.f64, betw, h1, h2]
        · simp [Tryz.f64, betw, h1, h2]
    · simp at h
  · simp at h
noncomputable def r2clampS : List AV → PR
  | [.int .i64 a, .int .i64 l, .int .i64 k] => open Classical in if l ≤ k then .val (.int .i64 (betw a l k)) else .fail
  | _ => .fail
@[simp] theorem r2clampS_val {a l k : Int} (h : l ≤ k) : r2clampS [.int .i64 a, .int .i64 l, .int .i64 k] = .val (.int .i64 (betw a l k)) := if_pos h
theorem r2clamp_ok : SumOk Tryz.prog 53 (pureS r2clampS) := by
  refine sum_fn (L := fun _ => none) (n := 1) (S := stOf []) drawS Tryz.T_ok (stOf_ok (by simp)) Tryz.func53 rfl (by kernel_rfl) (by kernel_rfl) ?_
    (by intro args v h; unfold r2clampS at h; split at h <;> (try split at h) <;> simp at h)
  intro args v h
  unfold r2clampS at h
  split at h
  · rename_i a l k
    split at h
    · rename_i hc
      have e0 := hc
      cases h
      refine ⟨by simp, by simp, by simp, ?_⟩
      by_cases h1 : a < l
      · simp [Tryz.f53, betw, h1]
      · by_cases h2 : k < a
        · simp [Tryz.f53, betw, h1, h2]
        · simp [Tryz.f53, betw, h1, h2]
    · simp at h
  · simp at h
noncomputable def r2quoS : List AV → PR
  | [.arr .u64 8 f, .arr .u64 8 g, .bool false] => open Classical in if R8 f ∧ R8 g ∧ sval g ≠ 0 ∧ InW (quoI (sval f) (sval g)) then .val (W (quoI (sval f) (sval g))) else .fail
  | _ => .fail
@[simp] theorem r2quoS_val {f g : Nat → Int} (h : R8 f ∧ R8 g ∧ sval g ≠ 0 ∧ InW (quoI (sval f) (sval g))) : r2quoS [.arr .u64 8 f, .arr .u64 8 g, .bool false] = .val (W (quoI (sval f) (sval g))) := if_pos h
theorem r2quo_ok : SumOk Tryz.prog 154 (pureS r2quoS) := by
  refine sum_fn (L := fun i => if i = 3 then some (.held 6 [5]) else none) (n := 1) (S := stOf [(141, pureS addS), (98, pureS divS), (142, pureS signS), (100, pureS ofS)]) drawS Tryz.T_ok (stOf_ok (by simp [radd_ok, rdiv_ok, rsign_ok, small_ok])) Tryz.func154 rfl (by kernel_rfl) (by kernel_rfl) ?_
    (by intro args v h; unfold r2quoS at h; split at h <;> (try split at h) <;> simp at h)
  intro args v h
  unfold r2quoS at h
  split at h
  · rename_i f g
    split at h
    · rename_i hc
      obtain ⟨hf, hg, e0, e1⟩ := hc
      cases h
      refine ⟨by simp, by simp, by simp, ?_⟩
      simp [Tryz.f154, hf, hg, e0, e1, quoV]
    · simp at h
  · simp at h
noncomputable def r2divS : List AV → PR
  | [.int .i64 a, .int .i64 b, .bool false] => open Classical in if InI a ∧ InI b ∧ b ≠ 0 then .val (.int .i64 (clampI (quoI (a * 4294967296) b))) else .fail
  | _ => .fail
@[simp] theorem r2divS_val {a b : Int} (h : InI a ∧ InI b ∧ b ≠ 0) : r2divS [.int .i64 a, .int .i64 b, .bool false] = .val (.int .i64 (clampI (quoI (a * 4294967296) b))) := if_pos h
theorem r2div_ok : SumOk Tryz.prog 102 (pureS r2divS) := by
  refine sum_fn (L := fun _ => none) (n := 1) (S := stOf [(151, pureS shlS), (154, pureS r2quoS), (101, pureS rwithinS), (153, pureS r2rawS)]) drawS Tryz.T_ok (stOf_ok (by simp [rshl_ok, r2quo_ok, rwithin_ok, r2raw_ok])) Tryz.func102 rfl (by kernel_rfl) (by kernel_rfl) ?_
    (by intro args v h; unfold r2divS at h; split at h <;> (try split at h) <;> simp at h)
  intro args v h
  unfold r2divS at h
  split at h
  · rename_i a b
    split at h
    · rename_i hc
      obtain ⟨ha, hb, e0⟩ := hc
      cases h
      refine ⟨by simp, by simp, by simp, ?_⟩
      have v : Bd 95 (a * 4294967296) := by simpa using (Bd.of ha).shl 32
      have i := v.w (by decide)
      have q := v.quo (by decide) e0
      simp [Tryz.f102, ha, hb, e0, fitI ha, fitI hb, R8_limb, shlV, fitV, i, sval_limb i, q, sval_limb q]
    · simp at h
  · simp at h
noncomputable def vsum2S : Sum := fun args env _ => match args with
  | [.slice b 0 2 _] => match env b with
    | some ⟨[.arr .u64 8 f, .arr .u64 8 g], _⟩ => open Classical in if R8 f ∧ R8 g ∧ InW (sval f + sval g) then .val (W (sval f + sval g)) [] [] else .fail
    | _ => .fail
  | _ => .fail
theorem vsum2_ok : SumOk Tryz.prog 61 vsum2S := by
  refine sum_read (L := fun _ => none) (n := 4) (S := stOf [(78, pureS addS)]) drawS Tryz.T_ok (stOf_ok (by simp [add_ok])) Tryz.func61 rfl (by kernel_rfl) (by kernel_rfl) ?_
  intro args env nxt h
  unfold vsum2S at h ⊢
  split at h
  · rename_i b c
    split at h
    · rename_i f g ty0 m0
      split at h
      · rename_i hc
        obtain ⟨hf, hg, e0⟩ := id hc
        refine ⟨_, _, _, W (sval f + sval g), laid1 [.slice 0 0 2 c] rfl (by simp) m0 rfl, by first | exact if_pos hc | (simp only [m0]; exact if_pos hc) | (simp [m0]; exact hc), by simp, by simp, ?_⟩
        have w1 : InW (sval f) := sval_range hf
        have w2 := sval_limb w1
        have w3 := sval_limb e0
        simp [Tryz.f61, hf, hg, e0, R8_limb, fitV, R8_zero, sval_zero, w1, w2]
      · simp at h
    · simp at h
  · simp at h
noncomputable def vmove1S : Sum := fun args env _ => match args with
  | [.int .i64 x, .int .i64 y, .ptr p 0] => match env p with
    | some ⟨[.int .i64 t], _⟩ => open Classical in if InI x ∧ InI y ∧ InI t then .val (.int .i64 (clampI ((x * 4294967296 + y * t) / 4294967296))) [] [] else .fail
    | _ => .fail
  | _ => .fail
theorem vmove1_ok : SumOk Tryz.prog 58 vmove1S := by
  refine sum_read (L := fun _ => none) (n := 1) (S := stOf [(60, pureS vrawS), (59, pureS shlS), (62, pureS vtimesS), (61, vsum2S), (39, pureS finS)]) drawS Tryz.T_ok (stOf_ok (by simp [vraw_ok, shl_ok, vtimes_ok, vsum2_ok, fin_ok])) Tryz.func58 rfl (by kernel_rfl) (by kernel_rfl) ?_
  intro args env nxt h
  unfold vmove1S at h ⊢
  split at h
  · rename_i x y p
    split at h
    · rename_i t ty0 m0
      split at h
      · rename_i hc
        obtain ⟨hx, hy, ht⟩ := id hc
        refine ⟨_, _, _, .int .i64 (clampI ((x * 4294967296 + y * t) / 4294967296)), laid1 [.int .i64 x, .int .i64 y, .ptr 0 0] rfl (by simp) m0 rfl, by first | exact if_pos hc | (simp only [m0]; exact if_pos hc) | (simp [m0]; exact hc), by simp, by simp, ?_⟩
        have s1 : Bd 95 (x * 4294967296) := by simpa using (Bd.of hx).shl 32
        have s2 := s1.w (by decide)
        have s3 : Bd 127 (x * 4294967296 + y * t) := (s1.mono (by decide)).add ((Bd.of hy).mul (Bd.of ht))
        have s4 := s3.w (by decide)
        have s5 := ((Bd.of hy).mul (Bd.of ht)).w (by decide)
        simp [Tryz.f58, hx, hy, ht, R8_limb, shlV, fitV, s2, sval_limb s2, s4, sval_limb s4, sval_limb s5, sval_limb (InI.w hx), vsum2S]
      · simp at h
    · simp at h
  · simp at h
noncomputable def veachMS : Sum := fun args env _ => match args with
  | [.agg [.int .i64 u, .int .i64 v, .int .i64 w], .agg [.int .i64 x, .int .i64 y, .int .i64 z], .fn 58 [.ptr p 0]] => match env p with
    | some ⟨[.int .i64 t], _⟩ => open Classical in if InI u ∧ InI v ∧ InI w ∧ InI x ∧ InI y ∧ InI z ∧ InI t then .val (.agg [.int .i64 (clampI ((u * 4294967296 + x * t) / 4294967296)), .int .i64 (clampI ((v * 4294967296 + y * t) / 4294967296)), .int .i64 (clampI ((w * 4294967296 + z * t) / 4294967296))]) [] [] else .fail
    | _ => .fail
  | _ => .fail
theorem veachM_ok : SumOk Tryz.prog 57 veachMS := by
  refine sum_read (L := fun i => if i = 1 then some (.quiet 19) else none) (n := 1) (S := stOf [(58, vmove1S)]) drawS Tryz.T_ok (stOf_ok (by simp [vmove1_ok])) Tryz.func57 rfl (by kernel_rfl) (by kernel_rfl) ?_
  intro args env nxt h
  unfold veachMS at h ⊢
  split at h
  · rename_i u v w x y z p
    split at h
    · rename_i t ty0 m0
      split at h
      · rename_i hc
        obtain ⟨hu, hv, hw, hx, hy, hz, ht⟩ := id hc
        refine ⟨_, _, _, .agg [.int .i64 (clampI ((u * 4294967296 + x * t) / 4294967296)), .int .i64 (clampI ((v * 4294967296 + y * t) / 4294967296)), .int .i64 (clampI ((w * 4294967296 + z * t) / 4294967296))], laid1 [.agg [.int .i64 u, .int .i64 v, .int .i64 w], .agg [.int .i64 x, .int .i64 y, .int .i64 z], .fn 58 [.ptr 0 0]] rfl (by simp) m0 rfl, by first | exact if_pos hc | (simp only [m0]; exact if_pos hc) | (simp [m0]; exact hc), by simp, by simp, ?_⟩
        simp [Tryz.f57, hu, hv, hw, hx, hy, hz, ht, vmove1S]
      · simp at h
    · simp at h
  · simp at h
noncomputable def vMoveS : List AV → PR
  | [.agg [.int .i64 a, .int .i64 b, .int .i64 c], .agg [.int .i64 d, .int .i64 e, .int .i64 f], .int .i64 t] => open Classical in if InI a ∧ InI b ∧ InI c ∧ InI d ∧ InI e ∧ InI f ∧ InI t then .val (.agg [.int .i64 (clampI ((a * 4294967296 + d * t) / 4294967296)), .int .i64 (clampI ((b * 4294967296 + e * t) / 4294967296)), .int .i64 (clampI ((c * 4294967296 + f * t) / 4294967296))]) else .fail
  | _ => .fail
@[simp] theorem vMoveS_val {a b c d e f t : Int} (h : InI a ∧ InI b ∧ InI c ∧ InI d ∧ InI e ∧ InI f ∧ InI t) : vMoveS [.agg [.int .i64 a, .int .i64 b, .int .i64 c], .agg [.int .i64 d, .int .i64 e, .int .i64 f], .int .i64 t] = .val (.agg [.int .i64 (clampI ((a * 4294967296 + d * t) / 4294967296)), .int .i64 (clampI ((b * 4294967296 + e * t) / 4294967296)), .int .i64 (clampI ((c * 4294967296 + f * t) / 4294967296))]) := if_pos h
theorem vMove_ok : SumOk Tryz.prog 29 (pureS vMoveS) := by
  refine sum_fn (L := fun _ => none) (n := 1) (S := stOf [(57, veachMS)]) drawS Tryz.T_ok (stOf_ok (by simp [veachM_ok])) Tryz.func29 rfl (by kernel_rfl) (by kernel_rfl) ?_
    (by intro args v h; unfold vMoveS at h; split at h <;> (try split at h) <;> simp at h)
  intro args v h
  unfold vMoveS at h
  split at h
  · rename_i a b c d e f t
    split at h
    · rename_i hc
      obtain ⟨ha, hb, hc, hd, he, hf, ht⟩ := hc
      cases h
      refine ⟨by simp, by simp, by simp, ?_⟩
      simp [Tryz.f29, ha, hb, hc, hd, he, hf, ht, veachMS]
    · simp at h
  · simp at h
end Go.X
end

section
namespace Go.X
open Go.Proofs
attribute [local irreducible] Good
attribute [simp] Tryz.T_31
def max3 (a b c : Int) : Int := if (if a < b then b else a) < c then c else if a < b then b else a
def min3 (a b c : Int) : Int := if c < (if b < a then b else a) then c else if b < a then b else a
theorem max3_is {a b c : Int} : (if (if a < b then b else a) < c then c else if a < b then b else a) = max3 a b c := rfl
theorem min3_is {a b c : Int} : (if c < (if b < a then b else a) then c else if b < a then b else a) = min3 a b c := rfl
def Place (a b c : Int) : Prop := (-4398046511104 ≤ a ∧ a ≤ 4398046511104) ∧ (-4398046511104 ≤ b ∧ b ≤ 4398046511104) ∧ (-4398046511104 ≤ c ∧ c ≤ 4398046511104)
instance (a b c : Int) : Decidable (Place a b c) := inferInstanceAs (Decidable (_ ∧ _))
theorem place_iff {a b c : Int} : Place a b c ↔ ¬ (4398046511104 < max3 a b c) ∧ ¬ (min3 a b c < -4398046511104) := by
  unfold Place max3 min3
  constructor
  · intro h; constructor <;> (repeat' split) <;> omega
  · rintro ⟨h1, h2⟩
    revert h1 h2
    (repeat' split) <;> omega
def Size3 (a b c : Int) : Prop := (-274877906944 ≤ a ∧ a ≤ 274877906944) ∧ (-274877906944 ≤ b ∧ b ≤ 274877906944) ∧ (-274877906944 ≤ c ∧ c ≤ 274877906944)
theorem size_iff {a b c : Int} : Size3 a b c ↔ ¬ (274877906944 < max3 a b c) ∧ ¬ (min3 a b c < -274877906944) := by
  unfold Size3 max3 min3
  constructor
  · intro h; constructor <;> (repeat' split) <;> omega
  · rintro ⟨h1, h2⟩
    revert h1 h2
    (repeat' split) <;> omega
theorem told_one {θ : List Nat} {m0 m' : List Blk} {nxt q : Nat} {v v' : AV} {blk : Blk} (h1 : θ.length ≤ q) (h2 : m'[q]? = some blk) (h3 : ∀ i, i < θ.length → m'[i]? = m0[i]?) (hb : refsL blk.items = [])
    (hv : v.ren (glob θ nxt [q]) = v') (hr : ∀ b ∈ refs v, b = q) (hu : v ≠ .undef) (h6 : ∀ i, i < θ.length → refsL (m0.getD i default).items = [] := by simp) :
    Told θ m0 m' nxt [q] none v (.val v' [] [blk]) := by
  have h4 : q < m'.length := by
    rcases Nat.lt_or_ge q m'.length with h | h
    · exact h
    · rw [List.getElem?_eq_none h] at h2; simp at h2
  have h5 : m'.getD q default = blk := by rw [List.getD_eq_getElem?_getD, h2]; rfl
  refine ⟨?_, by simp, by simp; omega, by omega, fun i hi _ => h3 i hi, by simp, fun b h => .inr (by simp [hr b h]), ?_, hu⟩
  · simp only [List.map_cons, List.map_nil, h5]
    rw [hv]
    simp only [upOf, glB]
    rw [renL_noref _ _ hb]
  · intro p hp b hb'
    rcases hp with hp | hp
    · have e : m'.getD p default = m0.getD p default := by rw [List.getD_eq_getElem?_getD, h3 p hp, ← List.getD_eq_getElem?_getD]
      rw [e, h6 p hp] at hb'
      simp at hb'
    · simp at hp
      subst hp
      rw [h5, hb] at hb'
      simp at hb'
theorem told_none {θ : List Nat} {m0 m' : List Blk} {nxt : Nat} {v : AV} (hl : θ.length ≤ m'.length) (h3 : ∀ i, i < θ.length → m'[i]? = m0[i]?) (hr : refs v = []) (hu : v ≠ .undef) (h6 : ∀ i, i < θ.length → refsL (m0.getD i default).items = [] := by simp) :
    Told θ m0 m' nxt [] none v (.val v [] []) := by
  refine ⟨by simp [upOf, ren_noref _ _ hr], by simp, by simp, hl, fun i h _ => h3 i h, by simp, by simp [hr], ?_, hu⟩
  intro p hp b hb'
  rcases hp with hp | hp
  · have e : m'.getD p default = m0.getD p default := by rw [List.getD_eq_getElem?_getD, h3 p hp, ← List.getD_eq_getElem?_getD]
    rw [e, h6 p hp] at hb'
    simp at hb'
  · simp at hp
noncomputable def pCheckS : List AV → PR
  | [.agg [.int .i64 p1, .int .i64 p2, .int .i64 p3, .int .i64 q0, .int .i64 q1, .int .i64 q2, .int .i64 q3]] => open Classical in if InI p1 ∧ InI p2 ∧ InI p3 ∧ InI q0 ∧ InI q1 ∧ InI q2 ∧ InI q3 then .val (.int .i64 (if Place p1 p2 p3 then (if TurnP q0 q1 q2 q3 then 0 else 9) else 7)) else .fail
  | _ => .fail
@[simp] theorem pCheckS_val {p1 p2 p3 q0 q1 q2 q3 : Int} (h : InI p1 ∧ InI p2 ∧ InI p3 ∧ InI q0 ∧ InI q1 ∧ InI q2 ∧ InI q3) : pCheckS [.agg [.int .i64 p1, .int .i64 p2, .int .i64 p3, .int .i64 q0, .int .i64 q1, .int .i64 q2, .int .i64 q3]] = .val (.int .i64 (if Place p1 p2 p3 then (if TurnP q0 q1 q2 q3 then 0 else 9) else 7)) := if_pos h
theorem pCheck_ok : SumOk Tryz.prog 48 (pureS pCheckS) := by
  refine sum_fn (L := fun _ => none) (n := 1) (S := stOf [(83, pureS qcheckS)]) drawS Tryz.T_ok (stOf_ok (by simp [qcheck_ok])) Tryz.func48 rfl (by kernel_rfl) (by kernel_rfl) ?_
    (by intro args v h; unfold pCheckS at h; split at h <;> (try split at h) <;> simp at h)
  intro args v h
  unfold pCheckS at h
  split at h
  · rename_i p1 p2 p3 q0 q1 q2 q3
    split at h
    · rename_i hc
      obtain ⟨hp1, hp2, hp3, hq0, hq1, hq2, hq3⟩ := hc
      cases h
      refine ⟨by simp, by simp, by simp, ?_⟩
      by_cases pl : Place p1 p2 p3
      · have pl2 := place_iff.1 pl
        by_cases tt : TurnP q0 q1 q2 q3
        · simp (maxSteps := 10000000) [hq0, hq1, hq2, hq3, Tryz.f48, max3_is, min3_is, pl, pl2.1, pl2.2, tt]
        · simp (maxSteps := 10000000) [hq0, hq1, hq2, hq3, Tryz.f48, max3_is, min3_is, pl, pl2.1, pl2.2, tt]
      · have pl2 : 4398046511104 < max3 p1 p2 p3 ∨ min3 p1 p2 p3 < -4398046511104 := by
          rw [place_iff] at pl; omega
        rcases Decidable.em (4398046511104 < max3 p1 p2 p3) with k1 | k1
        · simp (maxSteps := 10000000) [Tryz.f48, max3_is, pl, k1]
        · have k2 := pl2.resolve_left k1
          simp (maxSteps := 10000000) [Tryz.f48, max3_is, min3_is, pl, k1, k2]
    · simp at h
  · simp at h
end Go.X
end
