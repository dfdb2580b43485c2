/- Package quat: exact products. -/
import Derived.Test.YtgfpllfimpgooaaGreatJMH
namespace Go.X
open Go.Proofs
attribute [local irreducible] Good
attribute [simp] Tryz.T_146
attribute [simp] Tryz.T_145
attribute [simp] Tryz.T_187
attribute [simp] Tryz.T_188
attribute [simp] Tryz.T_227
attribute [simp] Tryz.T_228
attribute [simp] Tryz.T_30

@[simp] theorem range_3 : List.range 3 = [0, 1, 2] := rfl
@[simp] theorem range_4 : List.range 4 = [0, 1, 2, 3] := rfl
/-- what is said of a function in two ways -/
def orS (g h : Sum) : Sum := fun args env n => match g args env n with
  | .fail => h args env n
  | r => r
theorem orS_ok {P : Program} {f : FuncId} {g h : Sum} (hg : SumOk P f g) (hh : SumOk P f h) : SumOk P f (orS g h) := by
  intro args D ρ0 w0 ρ mem env nxt w henv h1 h2 h3 h4 h5
  have e : g args env nxt = .fail → orS g h args env nxt = h args env nxt := fun e => by simp only [orS, e]
  have e' : g args env nxt ≠ .fail → orS g h args env nxt = g args env nxt := fun e => by
    unfold orS
    cases hc : g args env nxt <;> first | rfl | exact absurd hc e
  by_cases hc : g args env nxt = .fail
  · rw [e hc] at h1 h4 ⊢
    exact hh args D ρ0 w0 ρ mem env nxt w henv h1 h2 h3 h4 h5
  · rw [e' hc] at h1 h4 ⊢
    exact hg args D ρ0 w0 ρ mem env nxt w henv h1 h2 h3 h4 h5

/-- one of four -/
def pick4 (p0 p1 p2 p3 : Nat → Int) (i : Int) : Nat → Int := if i = 0 then p0 else if i = 1 then p1 else if i = 2 then p2 else p3
theorem four_of {i : Int} (h0 : 0 ≤ i) (h : i < 4) : i = 0 ∨ i = 1 ∨ i = 2 ∨ i = 3 := by omega
def pre4 (p0 p1 p2 : Nat → Int) (i : Int) : List AV := if i = 0 then [] else if i = 1 then [.arr .u64 8 p0] else if i = 2 then [.arr .u64 8 p0, .arr .u64 8 p1] else [.arr .u64 8 p0, .arr .u64 8 p1, .arr .u64 8 p2]
def suf4 (p1 p2 p3 : Nat → Int) (i : Int) : List AV := if i = 0 then [.arr .u64 8 p1, .arr .u64 8 p2, .arr .u64 8 p3] else if i = 1 then [.arr .u64 8 p2, .arr .u64 8 p3] else if i = 2 then [.arr .u64 8 p3] else []
theorem cut4 {p0 p1 p2 p3 : Nat → Int} {i : Int} (h0 : 0 ≤ i) (h1 : i < 4) : cut [.arr .u64 8 p0, .arr .u64 8 p1, .arr .u64 8 p2, .arr .u64 8 p3] (i.toNat * 8) = some (pre4 p0 p1 p2 i, .arr .u64 8 (pick4 p0 p1 p2 p3 i) :: suf4 p1 p2 p3 i) := by
  rcases four_of h0 h1 with rfl | rfl | rfl | rfl <;> rfl
theorem R8_pick4 {p0 p1 p2 p3 : Nat → Int} (h0 : R8 p0) (h1 : R8 p1) (h2 : R8 p2) (h3 : R8 p3) (i : Int) : R8 (pick4 p0 p1 p2 p3 i) := by
  unfold pick4; repeat' split
  all_goals assumption
theorem Bd_pick4 {p0 p1 p2 p3 : Nat → Int} {k : Nat} (h0 : Bd k (sval p0)) (h1 : Bd k (sval p1)) (h2 : Bd k (sval p2)) (h3 : Bd k (sval p3)) (i : Int) : Bd k (sval (pick4 p0 p1 p2 p3 i)) := by
  unfold pick4; repeat' split
  all_goals assumption
theorem Bd2 {z : Int} (h0 : -2 ≤ z) (h1 : z ≤ 2) : Bd 2 z := by unfold Bd; omega
theorem InI_two {z : Int} (h0 : -2 ≤ z) (h1 : z ≤ 2) : InI z := by unfold InI; omega

noncomputable def qplusS : List AV → PR
  | [.arr .u64 8 f, .arr .u64 8 g] => open Classical in if R8 f ∧ R8 g ∧ InW (sval f + sval g) then .val (W (sval f + sval g)) else .fail
  | _ => .fail
@[simp] theorem qplusS_val {f g : Nat → Int} (h : R8 f ∧ R8 g ∧ InW (sval f + sval g)) : qplusS [.arr .u64 8 f, .arr .u64 8 g] = .val (W (sval f + sval g)) := if_pos h
theorem qplus_ok : SumOk Tryz.prog 173 (pureS qplusS) := by
  refine sum_fn (L := fun _ => none) (n := 1) (S := stOf [(127, pureS addS)]) drawS Tryz.T_ok (stOf_ok (by simp [add_ok])) Tryz.func173 rfl (by kernel_rfl) (by kernel_rfl) ?_
    (by intro args v h; unfold qplusS at h; split at h <;> (try split at h) <;> simp at h)
  intro args v h
  unfold qplusS at h
  split at h
  · rename_i f g
    split at h
    · rename_i hc
      obtain ⟨hf, hg, e0⟩ := hc
      cases h
      refine ⟨by simp, by simp, by simp, ?_⟩
      simp [Tryz.f173, hf, hg, e0, fitV]
    · simp at h
  · simp at h

noncomputable def qtimesS : List AV → PR
  | [.arr .u64 8 f, .arr .u64 8 g] => open Classical in if R8 f ∧ R8 g ∧ InW (sval f * sval g) then .val (W (sval f * sval g)) else .fail
  | _ => .fail
@[simp] theorem qtimesS_val {f g : Nat → Int} (h : R8 f ∧ R8 g ∧ InW (sval f * sval g)) : qtimesS [.arr .u64 8 f, .arr .u64 8 g] = .val (W (sval f * sval g)) := if_pos h
theorem qtimes_ok : SumOk Tryz.prog 174 (pureS qtimesS) := by
  refine sum_fn (L := fun _ => none) (n := 1) (S := stOf [(128, pureS mulS)]) drawS Tryz.T_ok (stOf_ok (by simp [mul_ok])) Tryz.func174 rfl (by kernel_rfl) (by kernel_rfl) ?_
    (by intro args v h; unfold qtimesS at h; split at h <;> (try split at h) <;> simp at h)
  intro args v h
  unfold qtimesS at h
  split at h
  · rename_i f g
    split at h
    · rename_i hc
      obtain ⟨hf, hg, e0⟩ := hc
      cases h
      refine ⟨by simp, by simp, by simp, ?_⟩
      simp [Tryz.f174, hf, hg, e0, fitV]
    · simp at h
  · simp at h

noncomputable def qrawS : List AV → PR
  | [.agg [.int .i64 a, .int .i64 b, .int .i64 c, .int .i64 d]] => open Classical in if InI a ∧ InI b ∧ InI c ∧ InI d then .val (.agg [W a, W b, W c, W d]) else .fail
  | _ => .fail
@[simp] theorem qrawS_val {a b c d : Int} (h : InI a ∧ InI b ∧ InI c ∧ InI d) : qrawS [.agg [.int .i64 a, .int .i64 b, .int .i64 c, .int .i64 d]] = .val (.agg [W a, W b, W c, W d]) := if_pos h
theorem qraw_ok : SumOk Tryz.prog 114 (pureS qrawS) := by
  refine sum_fn (L := fun i => if i = 1 then some (.quiet 13) else none) (n := 1) (S := stOf [(105, pureS ofS)]) drawS Tryz.T_ok (stOf_ok (by simp [of_ok])) Tryz.func114 rfl (by kernel_rfl) (by kernel_rfl) ?_
    (by intro args v h; unfold qrawS at h; split at h <;> (try split at h) <;> simp at h)
  intro args v h
  unfold qrawS at h
  split at h
  · rename_i a b c d
    split at h
    · rename_i hc
      obtain ⟨ha, hb, hc, hd⟩ := hc
      cases h
      refine ⟨by simp, by simp, by simp, ?_⟩
      simp [Tryz.f114, ofS_in ha, ofS_in hb, ofS_in hc, ofS_in hd]
    · simp at h
  · simp at h

noncomputable def qsum4S : Sum := fun args env _ => match args with
  | [.agg [.arr .u64 8 p0, .arr .u64 8 p1, .arr .u64 8 p2, .arr .u64 8 p3], .agg [.arr .u64 8 q0, .arr .u64 8 q1, .arr .u64 8 q2, .arr .u64 8 q3], .slice b 0 4 _] => match env b with
    | some ⟨[.arr .i64 12 t], _⟩ => open Classical in if R8 p0 ∧ R8 p1 ∧ R8 p2 ∧ R8 p3 ∧ R8 q0 ∧ R8 q1 ∧ R8 q2 ∧ R8 q3 ∧ Bd 63 (sval p0) ∧ Bd 63 (sval p1) ∧ Bd 63 (sval p2) ∧ Bd 63 (sval p3) ∧ Bd 63 (sval q0) ∧ Bd 63 (sval q1) ∧ Bd 63 (sval q2) ∧ Bd 63 (sval q3) ∧ -2 ≤ t 0 ∧ t 0 ≤ 2 ∧ 0 ≤ t 1 ∧ t 1 < 4 ∧ 0 ≤ t 2 ∧ t 2 < 4 ∧ -2 ≤ t 3 ∧ t 3 ≤ 2 ∧ 0 ≤ t 4 ∧ t 4 < 4 ∧ 0 ≤ t 5 ∧ t 5 < 4 ∧ -2 ≤ t 6 ∧ t 6 ≤ 2 ∧ 0 ≤ t 7 ∧ t 7 < 4 ∧ 0 ≤ t 8 ∧ t 8 < 4 ∧ -2 ≤ t 9 ∧ t 9 ≤ 2 ∧ 0 ≤ t 10 ∧ t 10 < 4 ∧ 0 ≤ t 11 ∧ t 11 < 4 then .val (W (t 0 * (sval (pick4 p0 p1 p2 p3 (t 1)) * sval (pick4 q0 q1 q2 q3 (t 2))) + t 3 * (sval (pick4 p0 p1 p2 p3 (t 4)) * sval (pick4 q0 q1 q2 q3 (t 5))) + t 6 * (sval (pick4 p0 p1 p2 p3 (t 7)) * sval (pick4 q0 q1 q2 q3 (t 8))) + t 9 * (sval (pick4 p0 p1 p2 p3 (t 10)) * sval (pick4 q0 q1 q2 q3 (t 11))))) [] [] else .fail
    | _ => .fail
  | _ => .fail
set_option maxHeartbeats 40000000 in
theorem qsum4_ok : SumOk Tryz.prog 201 qsum4S := by
  refine sum_read (L := fun i => if i = 5 then some (.quiet 15) else none) (n := 5) (S := stOf [(105, pureS ofS), (174, pureS qtimesS), (173, pureS qplusS)]) drawS Tryz.T_ok (stOf_ok (by simp [of_ok, qtimes_ok, qplus_ok])) Tryz.func201 rfl (by kernel_rfl) (by kernel_rfl) ?_
  intro args env nxt h
  unfold qsum4S at h ⊢
  split at h
  · rename_i p0 p1 p2 p3 q0 q1 q2 q3 b c
    split at h
    · rename_i t ty0 m0
      split at h
      · rename_i hc
        obtain ⟨hp0, hp1, hp2, hp3, hq0, hq1, hq2, hq3, e0, e1, e2, e3, e4, e5, e6, e7, e8, e9, e10, e11, e12, e13, e14, e15, e16, e17, e18, e19, e20, e21, e22, e23, e24, e25, e26, e27, e28, e29, e30, e31⟩ := id hc
        refine ⟨_, _, _, W (t 0 * (sval (pick4 p0 p1 p2 p3 (t 1)) * sval (pick4 q0 q1 q2 q3 (t 2))) + t 3 * (sval (pick4 p0 p1 p2 p3 (t 4)) * sval (pick4 q0 q1 q2 q3 (t 5))) + t 6 * (sval (pick4 p0 p1 p2 p3 (t 7)) * sval (pick4 q0 q1 q2 q3 (t 8))) + t 9 * (sval (pick4 p0 p1 p2 p3 (t 10)) * sval (pick4 q0 q1 q2 q3 (t 11)))), laid1 [.agg [.arr .u64 8 p0, .arr .u64 8 p1, .arr .u64 8 p2, .arr .u64 8 p3], .agg [.arr .u64 8 q0, .arr .u64 8 q1, .arr .u64 8 q2, .arr .u64 8 q3], .slice 0 0 4 c] rfl (by simp) m0 rfl, by first | exact if_pos hc | (simp only [m0]; exact if_pos hc), by simp, by simp, ?_⟩
        have hp := Bd_pick4 e0 e1 e2 e3
        have hq := Bd_pick4 e4 e5 e6 e7
        have rp := R8_pick4 hp0 hp1 hp2 hp3
        have rq := R8_pick4 hq0 hq1 hq2 hq3
        have s0 := InI_two e8 e9
        have u0 : Bd 126 (sval (pick4 p0 p1 p2 p3 (t 1)) * sval (pick4 q0 q1 q2 q3 (t 2))) := (hp _).mul (hq _)
        have b0 : Bd 128 (t 0 * (sval (pick4 p0 p1 p2 p3 (t 1)) * sval (pick4 q0 q1 q2 q3 (t 2)))) := (Bd2 e8 e9).mul u0
        have i0 := u0.w (by decide)
        have k0 := b0.w (by decide)
        have s1 := InI_two e14 e15
        have u1 : Bd 126 (sval (pick4 p0 p1 p2 p3 (t 4)) * sval (pick4 q0 q1 q2 q3 (t 5))) := (hp _).mul (hq _)
        have b1 : Bd 128 (t 3 * (sval (pick4 p0 p1 p2 p3 (t 4)) * sval (pick4 q0 q1 q2 q3 (t 5)))) := (Bd2 e14 e15).mul u1
        have i1 := u1.w (by decide)
        have k1 := b1.w (by decide)
        have s2 := InI_two e20 e21
        have u2 : Bd 126 (sval (pick4 p0 p1 p2 p3 (t 7)) * sval (pick4 q0 q1 q2 q3 (t 8))) := (hp _).mul (hq _)
        have b2 : Bd 128 (t 6 * (sval (pick4 p0 p1 p2 p3 (t 7)) * sval (pick4 q0 q1 q2 q3 (t 8)))) := (Bd2 e20 e21).mul u2
        have i2 := u2.w (by decide)
        have k2 := b2.w (by decide)
        have s3 := InI_two e26 e27
        have u3 : Bd 126 (sval (pick4 p0 p1 p2 p3 (t 10)) * sval (pick4 q0 q1 q2 q3 (t 11))) := (hp _).mul (hq _)
        have b3 : Bd 128 (t 9 * (sval (pick4 p0 p1 p2 p3 (t 10)) * sval (pick4 q0 q1 q2 q3 (t 11)))) := (Bd2 e26 e27).mul u3
        have i3 := u3.w (by decide)
        have k3 := b3.w (by decide)
        have d1 := b0.add b1
        have d2 := d1.add (b2.mono (by decide : 128 ≤ 129))
        have d3 := d2.add (b3.mono (by decide : 128 ≤ 130))
        have l1 := d1.w (by decide)
        have l2 := d2.w (by decide)
        have l3 := d3.w (by decide)
        simp (maxSteps := 10000000) [Tryz.f201, R8_limb, rp, rq, ofS_in s0, fitI s0, i0, sval_limb i0, k0, sval_limb k0, cut4 e10 e11, cut4 e12 e13, e10, e11, e12, e13, ofS_in s1, fitI s1, i1, sval_limb i1, k1, sval_limb k1, cut4 e16 e17, cut4 e18 e19, e16, e17, e18, e19, ofS_in s2, fitI s2, i2, sval_limb i2, k2, sval_limb k2, cut4 e22 e23, cut4 e24 e25, e22, e23, e24, e25, ofS_in s3, fitI s3, i3, sval_limb i3, k3, sval_limb k3, cut4 e28 e29, cut4 e30 e31, e28, e29, e30, e31, l1, sval_limb l1, l2, sval_limb l2, l3, R8_zero, sval_zero]
      · simp at h
    · simp at h
  · simp at h

noncomputable def qsum2S : Sum := fun args env _ => match args with
  | [.agg [.arr .u64 8 p0, .arr .u64 8 p1, .arr .u64 8 p2, .arr .u64 8 p3], .agg [.arr .u64 8 q0, .arr .u64 8 q1, .arr .u64 8 q2, .arr .u64 8 q3], .slice b 0 2 _] => match env b with
    | some ⟨[.arr .i64 6 t], _⟩ => open Classical in if R8 p0 ∧ R8 p1 ∧ R8 p2 ∧ R8 p3 ∧ R8 q0 ∧ R8 q1 ∧ R8 q2 ∧ R8 q3 ∧ Bd 63 (sval p0) ∧ Bd 63 (sval p1) ∧ Bd 63 (sval p2) ∧ Bd 63 (sval p3) ∧ Bd 63 (sval q0) ∧ Bd 63 (sval q1) ∧ Bd 63 (sval q2) ∧ Bd 63 (sval q3) ∧ -2 ≤ t 0 ∧ t 0 ≤ 2 ∧ 0 ≤ t 1 ∧ t 1 < 4 ∧ 0 ≤ t 2 ∧ t 2 < 4 ∧ -2 ≤ t 3 ∧ t 3 ≤ 2 ∧ 0 ≤ t 4 ∧ t 4 < 4 ∧ 0 ≤ t 5 ∧ t 5 < 4 then .val (W (t 0 * (sval (pick4 p0 p1 p2 p3 (t 1)) * sval (pick4 q0 q1 q2 q3 (t 2))) + t 3 * (sval (pick4 p0 p1 p2 p3 (t 4)) * sval (pick4 q0 q1 q2 q3 (t 5))))) [] [] else .fail
    | _ => .fail
  | _ => .fail
set_option maxHeartbeats 40000000 in
theorem qsum2_ok : SumOk Tryz.prog 201 qsum2S := by
  refine sum_read (L := fun i => if i = 5 then some (.quiet 15) else none) (n := 3) (S := stOf [(105, pureS ofS), (174, pureS qtimesS), (173, pureS qplusS)]) drawS Tryz.T_ok (stOf_ok (by simp [of_ok, qtimes_ok, qplus_ok])) Tryz.func201 rfl (by kernel_rfl) (by kernel_rfl) ?_
  intro args env nxt h
  unfold qsum2S at h ⊢
  split at h
  · rename_i p0 p1 p2 p3 q0 q1 q2 q3 b c
    split at h
    · rename_i t ty0 m0
      split at h
      · rename_i hc
        obtain ⟨hp0, hp1, hp2, hp3, hq0, hq1, hq2, hq3, e0, e1, e2, e3, e4, e5, e6, e7, e8, e9, e10, e11, e12, e13, e14, e15, e16, e17, e18, e19⟩ := id hc
        refine ⟨_, _, _, W (t 0 * (sval (pick4 p0 p1 p2 p3 (t 1)) * sval (pick4 q0 q1 q2 q3 (t 2))) + t 3 * (sval (pick4 p0 p1 p2 p3 (t 4)) * sval (pick4 q0 q1 q2 q3 (t 5)))), laid1 [.agg [.arr .u64 8 p0, .arr .u64 8 p1, .arr .u64 8 p2, .arr .u64 8 p3], .agg [.arr .u64 8 q0, .arr .u64 8 q1, .arr .u64 8 q2, .arr .u64 8 q3], .slice 0 0 2 c] rfl (by simp) m0 rfl, by first | exact if_pos hc | (simp only [m0]; exact if_pos hc), by simp, by simp, ?_⟩
        have hp := Bd_pick4 e0 e1 e2 e3
        have hq := Bd_pick4 e4 e5 e6 e7
        have rp := R8_pick4 hp0 hp1 hp2 hp3
        have rq := R8_pick4 hq0 hq1 hq2 hq3
        have s0 := InI_two e8 e9
        have u0 : Bd 126 (sval (pick4 p0 p1 p2 p3 (t 1)) * sval (pick4 q0 q1 q2 q3 (t 2))) := (hp _).mul (hq _)
        have b0 : Bd 128 (t 0 * (sval (pick4 p0 p1 p2 p3 (t 1)) * sval (pick4 q0 q1 q2 q3 (t 2)))) := (Bd2 e8 e9).mul u0
        have i0 := u0.w (by decide)
        have k0 := b0.w (by decide)
        have s1 := InI_two e14 e15
        have u1 : Bd 126 (sval (pick4 p0 p1 p2 p3 (t 4)) * sval (pick4 q0 q1 q2 q3 (t 5))) := (hp _).mul (hq _)
        have b1 : Bd 128 (t 3 * (sval (pick4 p0 p1 p2 p3 (t 4)) * sval (pick4 q0 q1 q2 q3 (t 5)))) := (Bd2 e14 e15).mul u1
        have i1 := u1.w (by decide)
        have k1 := b1.w (by decide)
        have d1 := b0.add b1
        have l1 := d1.w (by decide)
        simp (maxSteps := 10000000) [Tryz.f201, R8_limb, rp, rq, ofS_in s0, fitI s0, i0, sval_limb i0, k0, sval_limb k0, cut4 e10 e11, cut4 e12 e13, e10, e11, e12, e13, ofS_in s1, fitI s1, i1, sval_limb i1, k1, sval_limb k1, cut4 e16 e17, cut4 e18 e19, e16, e17, e18, e19, l1, R8_zero, sval_zero]
      · simp at h
    · simp at h
  · simp at h

noncomputable def qsumLS : Sum := fun args env _ => match args with
  | [.agg [.arr .u64 8 p0, .arr .u64 8 p1, .arr .u64 8 p2, .arr .u64 8 p3], .agg [.arr .u64 8 q0, .arr .u64 8 q1, .arr .u64 8 q2, .arr .u64 8 q3], .slice b 0 4 _] => match env b with
    | some ⟨[.int .i64 t0, .int .i64 t1, .int .i64 t2, .int .i64 t3, .int .i64 t4, .int .i64 t5, .int .i64 t6, .int .i64 t7, .int .i64 t8, .int .i64 t9, .int .i64 t10, .int .i64 t11], _⟩ => open Classical in if R8 p0 ∧ R8 p1 ∧ R8 p2 ∧ R8 p3 ∧ R8 q0 ∧ R8 q1 ∧ R8 q2 ∧ R8 q3 ∧ Bd 63 (sval p0) ∧ Bd 63 (sval p1) ∧ Bd 63 (sval p2) ∧ Bd 63 (sval p3) ∧ Bd 63 (sval q0) ∧ Bd 63 (sval q1) ∧ Bd 63 (sval q2) ∧ Bd 63 (sval q3) ∧ -2 ≤ t0 ∧ t0 ≤ 2 ∧ 0 ≤ t1 ∧ t1 < 4 ∧ 0 ≤ t2 ∧ t2 < 4 ∧ -2 ≤ t3 ∧ t3 ≤ 2 ∧ 0 ≤ t4 ∧ t4 < 4 ∧ 0 ≤ t5 ∧ t5 < 4 ∧ -2 ≤ t6 ∧ t6 ≤ 2 ∧ 0 ≤ t7 ∧ t7 < 4 ∧ 0 ≤ t8 ∧ t8 < 4 ∧ -2 ≤ t9 ∧ t9 ≤ 2 ∧ 0 ≤ t10 ∧ t10 < 4 ∧ 0 ≤ t11 ∧ t11 < 4 then .val (W (t0 * (sval (pick4 p0 p1 p2 p3 (t1)) * sval (pick4 q0 q1 q2 q3 (t2))) + t3 * (sval (pick4 p0 p1 p2 p3 (t4)) * sval (pick4 q0 q1 q2 q3 (t5))) + t6 * (sval (pick4 p0 p1 p2 p3 (t7)) * sval (pick4 q0 q1 q2 q3 (t8))) + t9 * (sval (pick4 p0 p1 p2 p3 (t10)) * sval (pick4 q0 q1 q2 q3 (t11))))) [] [] else .fail
    | _ => .fail
  | _ => .fail
set_option maxHeartbeats 40000000 in
theorem qsumL_ok : SumOk Tryz.prog 201 qsumLS := by
  refine sum_read (L := fun i => if i = 5 then some (.quiet 15) else none) (n := 5) (S := stOf [(105, pureS ofS), (174, pureS qtimesS), (173, pureS qplusS)]) drawS Tryz.T_ok (stOf_ok (by simp [of_ok, qtimes_ok, qplus_ok])) Tryz.func201 rfl (by kernel_rfl) (by kernel_rfl) ?_
  intro args env nxt h
  unfold qsumLS at h ⊢
  split at h
  · rename_i p0 p1 p2 p3 q0 q1 q2 q3 b c
    split at h
    · rename_i t0 t1 t2 t3 t4 t5 t6 t7 t8 t9 t10 t11 ty0 m0
      split at h
      · rename_i hc
        obtain ⟨hp0, hp1, hp2, hp3, hq0, hq1, hq2, hq3, e0, e1, e2, e3, e4, e5, e6, e7, e8, e9, e10, e11, e12, e13, e14, e15, e16, e17, e18, e19, e20, e21, e22, e23, e24, e25, e26, e27, e28, e29, e30, e31⟩ := id hc
        refine ⟨_, _, _, W (t0 * (sval (pick4 p0 p1 p2 p3 (t1)) * sval (pick4 q0 q1 q2 q3 (t2))) + t3 * (sval (pick4 p0 p1 p2 p3 (t4)) * sval (pick4 q0 q1 q2 q3 (t5))) + t6 * (sval (pick4 p0 p1 p2 p3 (t7)) * sval (pick4 q0 q1 q2 q3 (t8))) + t9 * (sval (pick4 p0 p1 p2 p3 (t10)) * sval (pick4 q0 q1 q2 q3 (t11)))), laid1 [.agg [.arr .u64 8 p0, .arr .u64 8 p1, .arr .u64 8 p2, .arr .u64 8 p3], .agg [.arr .u64 8 q0, .arr .u64 8 q1, .arr .u64 8 q2, .arr .u64 8 q3], .slice 0 0 4 c] rfl (by simp) m0 rfl, by first | exact if_pos hc | (simp only [m0]; exact if_pos hc), by simp, by simp, ?_⟩
        have hp := Bd_pick4 e0 e1 e2 e3
        have hq := Bd_pick4 e4 e5 e6 e7
        have rp := R8_pick4 hp0 hp1 hp2 hp3
        have rq := R8_pick4 hq0 hq1 hq2 hq3
        have s0 := InI_two e8 e9
        have u0 : Bd 126 (sval (pick4 p0 p1 p2 p3 (t1)) * sval (pick4 q0 q1 q2 q3 (t2))) := (hp _).mul (hq _)
        have b0 : Bd 128 (t0 * (sval (pick4 p0 p1 p2 p3 (t1)) * sval (pick4 q0 q1 q2 q3 (t2)))) := (Bd2 e8 e9).mul u0
        have i0 := u0.w (by decide)
        have k0 := b0.w (by decide)
        have s1 := InI_two e14 e15
        have u1 : Bd 126 (sval (pick4 p0 p1 p2 p3 (t4)) * sval (pick4 q0 q1 q2 q3 (t5))) := (hp _).mul (hq _)
        have b1 : Bd 128 (t3 * (sval (pick4 p0 p1 p2 p3 (t4)) * sval (pick4 q0 q1 q2 q3 (t5)))) := (Bd2 e14 e15).mul u1
        have i1 := u1.w (by decide)
        have k1 := b1.w (by decide)
        have s2 := InI_two e20 e21
        have u2 : Bd 126 (sval (pick4 p0 p1 p2 p3 (t7)) * sval (pick4 q0 q1 q2 q3 (t8))) := (hp _).mul (hq _)
        have b2 : Bd 128 (t6 * (sval (pick4 p0 p1 p2 p3 (t7)) * sval (pick4 q0 q1 q2 q3 (t8)))) := (Bd2 e20 e21).mul u2
        have i2 := u2.w (by decide)
        have k2 := b2.w (by decide)
        have s3 := InI_two e26 e27
        have u3 : Bd 126 (sval (pick4 p0 p1 p2 p3 (t10)) * sval (pick4 q0 q1 q2 q3 (t11))) := (hp _).mul (hq _)
        have b3 : Bd 128 (t9 * (sval (pick4 p0 p1 p2 p3 (t10)) * sval (pick4 q0 q1 q2 q3 (t11)))) := (Bd2 e26 e27).mul u3
        have i3 := u3.w (by decide)
        have k3 := b3.w (by decide)
        have d1 := b0.add b1
        have d2 := d1.add (b2.mono (by decide : 128 ≤ 129))
        have d3 := d2.add (b3.mono (by decide : 128 ≤ 130))
        have l1 := d1.w (by decide)
        have l2 := d2.w (by decide)
        have l3 := d3.w (by decide)
        simp (maxSteps := 10000000) [Tryz.f201, R8_limb, rp, rq, ofS_in s0, fitI s0, i0, sval_limb i0, k0, sval_limb k0, cut4 e10 e11, cut4 e12 e13, e10, e11, e12, e13, ofS_in s1, fitI s1, i1, sval_limb i1, k1, sval_limb k1, cut4 e16 e17, cut4 e18 e19, e16, e17, e18, e19, ofS_in s2, fitI s2, i2, sval_limb i2, k2, sval_limb k2, cut4 e22 e23, cut4 e24 e25, e22, e23, e24, e25, ofS_in s3, fitI s3, i3, sval_limb i3, k3, sval_limb k3, cut4 e28 e29, cut4 e30 e31, e28, e29, e30, e31, l1, sval_limb l1, l2, sval_limb l2, l3, R8_zero, sval_zero]
      · simp at h
    · simp at h
  · simp at h

end Go.X
