/- Matrices and quaternions. -/
import Derived.Test.YtpojeehijepmhaaGreatGT
import Derived.Test.YtpojeehijepmhaaGreatGH

section
namespace Go.X
open Go.Proofs
attribute [local irreducible] Good
attribute [simp] Tryz.T_120
attribute [simp] Tryz.T_119
attribute [simp] Tryz.T_124
attribute [simp] Tryz.T_125
attribute [simp] Tryz.T_193
attribute [simp] Tryz.T_194
attribute [simp] Tryz.T_29
@[simp] theorem range_3 : List.range 3 = [0, 1, 2] := rfl
@[simp] theorem range_4 : List.range 4 = [0, 1, 2, 3] := rfl
def orS (g h : Sum) : Sum := fun args env n => match g args env n with
  | .fail => h args env n
  | r => r
theorem orS_ok {P : Program} {f : FuncId} {g h : Sum} (hg : SumOk P f g) (hh : SumOk P f h) : SumOk P f (orS g h) := by
  intro args D ρ0 w0 ρ mem env nxt w henv h1 h2 h3 h4 h5
  have e : g args env nxt = .fail → orS g h args env nxt = h args env nxt := fun e => by simp only [orS, e]
  have e' : g args env nxt ≠ .fail → orS g h args env nxt = g args env nxt := fun e => by
    unfold orS
    cases hc : g args env nxt <;> first | rfl | exact absurd hc e
  by_cases hc : g args env nxt = .fail
  · rw [e hc] at h1 h4 ⊢
    exact hh args D ρ0 w0 ρ mem env nxt w henv h1 h2 h3 h4 h5
  · rw [e' hc] at h1 h4 ⊢
    exact hg args D ρ0 w0 ρ mem env nxt w henv h1 h2 h3 h4 h5
def pick4 (p0 p1 p2 p3 : Nat → Int) (i : Int) : Nat → Int := if i = 0 then p0 else if i = 1 then p1 else if i = 2 then p2 else p3
theorem four_of {i : Int} (h0 : 0 ≤ i) (h : i < 4) : i = 0 ∨ i = 1 ∨ i = 2 ∨ i = 3 := by omega
def pre4 (p0 p1 p2 : Nat → Int) (i : Int) : List AV := if i = 0 then [] else if i = 1 then [.arr .u64 8 p0] else if i = 2 then [.arr .u64 8 p0, .arr .u64 8 p1] else [.arr .u64 8 p0, .arr .u64 8 p1, .arr .u64 8 p2]
def suf4 (p1 p2 p3 : Nat → Int) (i : Int) : List AV := if i = 0 then [.arr .u64 8 p1, .arr .u64 8 p2, .arr .u64 8 p3] else if i = 1 then [.arr .u64 8 p2, .arr .u64 8 p3] else if i = 2 then [.arr .u64 8 p3] else []
theorem cut4 {p0 p1 p2 p3 : Nat → Int} {i : Int} (h0 : 0 ≤ i) (h1 : i < 4) : cut [.arr .u64 8 p0, .arr .u64 8 p1, .arr .u64 8 p2, .arr .u64 8 p3] (i.toNat * 8) = some (pre4 p0 p1 p2 i, .arr .u64 8 (pick4 p0 p1 p2 p3 i) :: suf4 p1 p2 p3 i) := by
  rcases four_of h0 h1 with rfl | rfl | rfl | rfl <;> rfl
theorem R8_pick4 {p0 p1 p2 p3 : Nat → Int} (h0 : R8 p0) (h1 : R8 p1) (h2 : R8 p2) (h3 : R8 p3) (i : Int) : R8 (pick4 p0 p1 p2 p3 i) := by
  unfold pick4; repeat' split
  all_goals assumption
theorem Bd_pick4 {p0 p1 p2 p3 : Nat → Int} {k : Nat} (h0 : Bd k (sval p0)) (h1 : Bd k (sval p1)) (h2 : Bd k (sval p2)) (h3 : Bd k (sval p3)) (i : Int) : Bd k (sval (pick4 p0 p1 p2 p3 i)) := by
  unfold pick4; repeat' split
  all_goals assumption
theorem Bd2 {z : Int} (h0 : -2 ≤ z) (h1 : z ≤ 2) : Bd 2 z := by unfold Bd; omega
theorem InI_two {z : Int} (h0 : -2 ≤ z) (h1 : z ≤ 2) : InI z := by unfold InI; omega
noncomputable def qplusS : List AV → PR
  | [.arr .u64 8 f, .arr .u64 8 g] => open Classical in if R8 f ∧ R8 g ∧ InW (sval f + sval g) then .val (W (sval f + sval g)) else .fail
  | _ => .fail
@[simp] theorem qplusS_val {f g : Nat → Int} (h : R8 f ∧ R8 g ∧ InW (sval f + sval g)) : qplusS [.arr .u64 8 f, .arr .u64 8 g] = .val (W (sval f + sval g)) := if_pos h
theorem qplus_ok : SumOk Tryz.prog 124 (pureS qplusS) := by
  refine sum_fn (L := fun _ => none) (n := 1) (S := stOf [(78, pureS addS)]) drawS Tryz.T_ok (stOf_ok (by simp [add_ok])) Tryz.func124 rfl (by kernel_rfl) (by kernel_rfl) ?_
    (by intro args v h; unfold qplusS at h; split at h <;> (try split at h) <;> simp at h)
  intro args v h
  unfold qplusS at h
  split at h
  · rename_i f g
    split at h
    · rename_i hc
      obtain ⟨hf, hg, e0⟩ := hc
      cases h
      refine ⟨by simp, by simp, by simp, ?_⟩
      simp [Tryz.f124, hf, hg, e0, fitV]
    · simp at h
  · simp at h
noncomputable def qtimesS : List AV → PR
  | [.arr .u64 8 f, .arr .u64 8 g] => open Classical in if R8 f ∧ R8 g ∧ InW (sval f * sval g) then .val (W (sval f * sval g)) else .fail
  | _ => .fail
@[simp] theorem qtimesS_val {f g : Nat → Int} (h : R8 f ∧ R8 g ∧ InW (sval f * sval g)) : qtimesS [.arr .u64 8 f, .arr .u64 8 g] = .val (W (sval f * sval g)) := if_pos h
theorem qtimes_ok : SumOk Tryz.prog 125 (pureS qtimesS) := by
  refine sum_fn (L := fun _ => none) (n := 1) (S := stOf [(69, pureS mulS)]) drawS Tryz.T_ok (stOf_ok (by simp [mul_ok])) Tryz.func125 rfl (by kernel_rfl) (by kernel_rfl) ?_
    (by intro args v h; unfold qtimesS at h; split at h <;> (try split at h) <;> simp at h)
  intro args v h
  unfold qtimesS at h
  split at h
  · rename_i f g
    split at h
    · rename_i hc
      obtain ⟨hf, hg, e0⟩ := hc
      cases h
      refine ⟨by simp, by simp, by simp, ?_⟩
      simp [Tryz.f125, hf, hg, e0, fitV]
    · simp at h
  · simp at h
noncomputable def qrawS : List AV → PR
  | [.agg [.int .i64 a, .int .i64 b, .int .i64 c, .int .i64 d]] => open Classical in if InI a ∧ InI b ∧ InI c ∧ InI d then .val (.agg [W a, W b, W c, W d]) else .fail
  | _ => .fail
@[simp] theorem qrawS_val {a b c d : Int} (h : InI a ∧ InI b ∧ InI c ∧ InI d) : qrawS [.agg [.int .i64 a, .int .i64 b, .int .i64 c, .int .i64 d]] = .val (.agg [W a, W b, W c, W d]) := if_pos h
theorem qraw_ok : SumOk Tryz.prog 84 (pureS qrawS) := by
  refine sum_fn (L := fun i => if i = 1 then some (.quiet 13) else none) (n := 1) (S := stOf [(35, pureS ofS)]) drawS Tryz.T_ok (stOf_ok (by simp [of_ok])) Tryz.func84 rfl (by kernel_rfl) (by kernel_rfl) ?_
    (by intro args v h; unfold qrawS at h; split at h <;> (try split at h) <;> simp at h)
  intro args v h
  unfold qrawS at h
  split at h
  · rename_i a b c d
    split at h
    · rename_i hc
      obtain ⟨ha, hb, hc, hd⟩ := hc
      cases h
      refine ⟨by simp, by simp, by simp, ?_⟩
      simp [Tryz.f84, ofS_in ha, ofS_in hb, ofS_in hc, ofS_in hd]
    · simp at h
  · simp at h
noncomputable def qsum4S : Sum := fun args env _ => match args with
  | [.agg [.arr .u64 8 p0, .arr .u64 8 p1, .arr .u64 8 p2, .arr .u64 8 p3], .agg [.arr .u64 8 q0, .arr .u64 8 q1, .arr .u64 8 q2, .arr .u64 8 q3], .slice b 0 4 _] => match env b with
    | some ⟨[.arr .i64 12 t], _⟩ => open Classical in if R8 p0 ∧ R8 p1 ∧ R8 p2 ∧ R8 p3 ∧ R8 q0 ∧ R8 q1 ∧ R8 q2 ∧ R8 q3 ∧ Bd 63 (sval p0) ∧ Bd 63 (sval p1) ∧ Bd 63 (sval p2) ∧ Bd 63 (sval p3) ∧ Bd 63 (sval q0) ∧ Bd 63 (sval q1) ∧ Bd 63 (sval q2) ∧ Bd 63 (sval q3) ∧ -2 ≤ t 0 ∧ t 0 ≤ 2 ∧ 0 ≤ t 1 ∧ t 1 < 4 ∧ 0 ≤ t 2 ∧ t 2 < 4 ∧ -2 ≤ t 3 ∧ t 3 ≤ 2 ∧ 0 ≤ t 4 ∧ t 4 < 4 ∧ 0 ≤ t 5 ∧ t 5 < 4 ∧ -2 ≤ t 6 ∧ t 6 ≤ 2 ∧ 0 ≤ t 7 ∧ t 7 < 4 ∧ 0 ≤ t 8 ∧ t 8 < 4 ∧ -2 ≤ t 9 ∧ t 9 ≤ 2 ∧ 0 ≤ t 10 ∧ t 10 < 4 ∧ 0 ≤ t 11 ∧ t 11 < 4 then .val (W (t 0 * (sval (pick4 p0 p1 p2 p3 (t 1)) * sval (pick4 q0 q1 q2 q3 (t 2))) + t 3 * (sval (pick4 p0 p1 p2 p3 (t 4)) * sval (pick4 q0 q1 q2 q3 (t 5))) + t 6 * (sval (pick4 p0 p1 p2 p3 (t 7)) * sval (pick4 q0 q1 q2 q3 (t 8))) + t 9 * (sval (pick4 p0 p1 p2 p3 (t 10)) * sval (pick4 q0 q1 q2 q3 (t 11))))) [] [] else .fail
    | _ => .fail
  | _ => .fail
set_option maxHeartbeats 40000000 in
theorem qsum4_ok : SumOk Tryz.prog 87 qsum4S := by
  refine sum_read (L := fun i => if i = 5 then some (.quiet 15) else none) (n := 5) (S := stOf [(35, pureS ofS), (125, pureS qtimesS), (124, pureS qplusS)]) drawS Tryz.T_ok (stOf_ok (by simp [of_ok, qtimes_ok, qplus_ok])) Tryz.func87 rfl (by kernel_rfl) (by kernel_rfl) ?_
  intro args env nxt h
  unfold qsum4S at h ⊢
  split at h
  · rename_i p0 p1 p2 p3 q0 q1 q2 q3 b c
    split at h
    · rename_i t ty0 m0
      split at h
      · rename_i hc
        obtain ⟨hp0, hp1, hp2, hp3, hq0, hq1, hq2, hq3, e0, e1, e2, e3, e4, e5, e6, e7, e8, e9, e10, e11, e12, e13, e14, e15, e16, e17, e18, e19, e20, e21, e22, e23, e24, e25, e26, e27, e28, e29, e30, e31⟩ := id hc
        refine ⟨_, _, _, W (t 0 * (sval (pick4 p0 p1 p2 p3 (t 1)) * sval (pick4 q0 q1 q2 q3 (t 2))) + t 3 * (sval (pick4 p0 p1 p2 p3 (t 4)) * sval (pick4 q0 q1 q2 q3 (t 5))) + t 6 * (sval (pick4 p0 p1 p2 p3 (t 7)) * sval (pick4 q0 q1 q2 q3 (t 8))) + t 9 * (sval (pick4 p0 p1 p2 p3 (t 10)) * sval (pick4 q0 q1 q2 q3 (t 11)))), laid1 [.agg [.arr .u64 8 p0, .arr .u64 8 p1, .arr .u64 8 p2, .arr .u64 8 p3], .agg [.arr .u64 8 q0, .arr .u64 8 q1, .arr .u64 8 q2, .arr .u64 8 q3], .slice 0 0 4 c] rfl (by simp) m0 rfl, by first | exact if_pos hc | (simp only [m0]; exact if_pos hc), by simp, by simp, ?_⟩
        have hp := Bd_pick4 e0 e1 e2 e3
        have hq := Bd_pick4 e4 e5 e6 e7
        have rp := R8_pick4 hp0 hp1 hp2 hp3
        have rq := R8_pick4 hq0 hq1 hq2 hq3
        have s0 := InI_two e8 e9
        have u0 : Bd 126 (sval (pick4 p0 p1 p2 p3 (t 1)) * sval (pick4 q0 q1 q2 q3 (t 2))) := (hp _).mul (hq _)
        have b0 : Bd 128 (t 0 * (sval (pick4 p0 p1 p2 p3 (t 1)) * sval (pick4 q0 q1 q2 q3 (t 2)))) := (Bd2 e8 e9).mul u0
        have i0 := u0.w (by decide)
        have k0 := b0.w (by decide)
        have s1 := InI_two e14 e15
        have u1 : Bd 126 (sval (pick4 p0 p1 p2 p3 (t 4)) * sval (pick4 q0 q1 q2 q3 (t 5))) := (hp _).mul (hq _)
        have b1 : Bd 128 (t 3 * (sval (pick4 p0 p1 p2 p3 (t 4)) * sval (pick4 q0 q1 q2 q3 (t 5)))) := (Bd2 e14 e15).mul u1
        have i1 := u1.w (by decide)
        have k1 := b1.w (by decide)
        have s2 := InI_two e20 e21
        have u2 : Bd 126 (sval (pick4 p0 p1 p2 p3 (t 7)) * sval (pick4 q0 q1 q2 q3 (t 8))) := (hp _).mul (hq _)
        have b2 : Bd 128 (t 6 * (sval (pick4 p0 p1 p2 p3 (t 7)) * sval (pick4 q0 q1 q2 q3 (t 8)))) := (Bd2 e20 e21).mul u2
        have i2 := u2.w (by decide)
        have k2 := b2.w (by decide)
        have s3 := InI_two e26 e27
        have u3 : Bd 126 (sval (pick4 p0 p1 p2 p3 (t 10)) * sval (pick4 q0 q1 q2 q3 (t 11))) := (hp _).mul (hq _)
        have b3 : Bd 128 (t 9 * (sval (pick4 p0 p1 p2 p3 (t 10)) * sval (pick4 q0 q1 q2 q3 (t 11)))) := (Bd2 e26 e27).mul u3
        have i3 := u3.w (by decide)
        have k3 := b3.w (by decide)
        have d1 := b0.add b1
        have d2 := d1.add (b2.mono (by decide : 128 ≤ 129))
        have d3 := d2.add (b3.mono (by decide : 128 ≤ 130))
        have l1 := d1.w (by decide)
        have l2 := d2.w (by decide)
        have l3 := d3.w (by decide)
        simp (maxSteps := 10000000) [Tryz.f87, R8_limb, rp, rq, ofS_in s0, fitI s0, i0, sval_limb i0, k0, sval_limb k0, cut4 e10 e11, cut4 e12 e13, e10, e11, e12, e13, ofS_in s1, fitI s1, i1, sval_limb i1, k1, sval_limb k1, cut4 e16 e17, cut4 e18 e19, e16, e17, e18, e19, ofS_in s2, fitI s2, i2, sval_limb i2, k2, sval_limb k2, cut4 e22 e23, cut4 e24 e25, e22, e23, e24, e25, ofS_in s3, fitI s3, i3, sval_limb i3, k3, sval_limb k3, cut4 e28 e29, cut4 e30 e31, e28, e29, e30, e31, l1, sval_limb l1, l2, sval_limb l2, l3, R8_zero, sval_zero]
      · simp at h
    · simp at h
  · simp at h
noncomputable def qsum2S : Sum := fun args env _ => match args with
  | [.agg [.arr .u64 8 p0, .arr .u64 8 p1, .arr .u64 8 p2, .arr .u64 8 p3], .agg [.arr .u64 8 q0, .arr .u64 8 q1, .arr .u64 8 q2, .arr .u64 8 q3], .slice b 0 2 _] => match env b with
    | some ⟨[.arr .i64 6 t], _⟩ => open Classical in if R8 p0 ∧ R8 p1 ∧ R8 p2 ∧ R8 p3 ∧ R8 q0 ∧ R8 q1 ∧ R8 q2 ∧ R8 q3 ∧ Bd 63 (sval p0) ∧ Bd 63 (sval p1) ∧ Bd 63 (sval p2) ∧ Bd 63 (sval p3) ∧ Bd 63 (sval q0) ∧ Bd 63 (sval q1) ∧ Bd 63 (sval q2) ∧ Bd 63 (sval q3) ∧ -2 ≤ t 0 ∧ t 0 ≤ 2 ∧ 0 ≤ t 1 ∧ t 1 < 4 ∧ 0 ≤ t 2 ∧ t 2 < 4 ∧ -2 ≤ t 3 ∧ t 3 ≤ 2 ∧ 0 ≤ t 4 ∧ t 4 < 4 ∧ 0 ≤ t 5 ∧ t 5 < 4 then .val (W (t 0 * (sval (pick4 p0 p1 p2 p3 (t 1)) * sval (pick4 q0 q1 q2 q3 (t 2))) + t 3 * (sval (pick4 p0 p1 p2 p3 (t 4)) * sval (pick4 q0 q1 q2 q3 (t 5))))) [] [] else .fail
    | _ => .fail
  | _ => .fail
set_option maxHeartbeats 40000000 in
theorem qsum2_ok : SumOk Tryz.prog 87 qsum2S := by
  refine sum_read (L := fun i => if i = 5 then some (.quiet 15) else none) (n := 3) (S := stOf [(35, pureS ofS), (125, pureS qtimesS), (124, pureS qplusS)]) drawS Tryz.T_ok (stOf_ok (by simp [of_ok, qtimes_ok, qplus_ok])) Tryz.func87 rfl (by kernel_rfl) (by kernel_rfl) ?_
  intro args env nxt h
  unfold qsum2S at h ⊢
  split at h
  · rename_i p0 p1 p2 p3 q0 q1 q2 q3 b c
    split at h
    · rename_i t ty0 m0
      split at h
      · rename_i hc
        obtain ⟨hp0, hp1, hp2, hp3, hq0, hq1, hq2, hq3, e0, e1, e2, e3, e4, e5, e6, e7, e8, e9, e10, e11, e12, e13, e14, e15, e16, e17, e18, e19⟩ := id hc
        refine ⟨_, _, _, W (t 0 * (sval (pick4 p0 p1 p2 p3 (t 1)) * sval (pick4 q0 q1 q2 q3 (t 2))) + t 3 * (sval (pick4 p0 p1 p2 p3 (t 4)) * sval (pick4 q0 q1 q2 q3 (t 5)))), laid1 [.agg [.arr .u64 8 p0, .arr .u64 8 p1, .arr .u64 8 p2, .arr .u64 8 p3], .agg [.arr .u64 8 q0, .arr .u64 8 q1, .arr .u64 8 q2, .arr .u64 8 q3], .slice 0 0 2 c] rfl (by simp) m0 rfl, by first | exact if_pos hc | (simp only [m0]; exact if_pos hc), by simp, by simp, ?_⟩
        have hp := Bd_pick4 e0 e1 e2 e3
        have hq := Bd_pick4 e4 e5 e6 e7
        have rp := R8_pick4 hp0 hp1 hp2 hp3
        have rq := R8_pick4 hq0 hq1 hq2 hq3
        have s0 := InI_two e8 e9
        have u0 : Bd 126 (sval (pick4 p0 p1 p2 p3 (t 1)) * sval (pick4 q0 q1 q2 q3 (t 2))) := (hp _).mul (hq _)
        have b0 : Bd 128 (t 0 * (sval (pick4 p0 p1 p2 p3 (t 1)) * sval (pick4 q0 q1 q2 q3 (t 2)))) := (Bd2 e8 e9).mul u0
        have i0 := u0.w (by decide)
        have k0 := b0.w (by decide)
        have s1 := InI_two e14 e15
        have u1 : Bd 126 (sval (pick4 p0 p1 p2 p3 (t 4)) * sval (pick4 q0 q1 q2 q3 (t 5))) := (hp _).mul (hq _)
        have b1 : Bd 128 (t 3 * (sval (pick4 p0 p1 p2 p3 (t 4)) * sval (pick4 q0 q1 q2 q3 (t 5)))) := (Bd2 e14 e15).mul u1
        have i1 := u1.w (by decide)
        have k1 := b1.w (by decide)
        have d1 := b0.add b1
        have l1 := d1.w (by decide)
        simp (maxSteps := 10000000) [Tryz.f87, R8_limb, rp, rq, ofS_in s0, fitI s0, i0, sval_limb i0, k0, sval_limb k0, cut4 e10 e11, cut4 e12 e13, e10, e11, e12, e13, ofS_in s1, fitI s1, i1, sval_limb i1, k1, sval_limb k1, cut4 e16 e17, cut4 e18 e19, e16, e17, e18, e19, l1, R8_zero, sval_zero]
      · simp at h
    · simp at h
  · simp at h
noncomputable def qsumLS : Sum := fun args env _ => match args with
  | [.agg [.arr .u64 8 p0, .arr .u64 8 p1, .arr .u64 8 p2, .arr .u64 8 p3], .agg [.arr .u64 8 q0, .arr .u64 8 q1, .arr .u64 8 q2, .arr .u64 8 q3], .slice b 0 4 _] => match env b with
    | some ⟨[.int .i64 t0, .int .i64 t1, .int .i64 t2, .int .i64 t3, .int .i64 t4, .int .i64 t5, .int .i64 t6, .int .i64 t7, .int .i64 t8, .int .i64 t9, .int .i64 t10, .int .i64 t11], _⟩ => open Classical in if R8 p0 ∧ R8 p1 ∧ R8 p2 ∧ R8 p3 ∧ R8 q0 ∧ R8 q1 ∧ R8 q2 ∧ R8 q3 ∧ Bd 63 (sval p0) ∧ Bd 63 (sval p1) ∧ Bd 63 (sval p2) ∧ Bd 63 (sval p3) ∧ Bd 63 (sval q0) ∧ Bd 63 (sval q1) ∧ Bd 63 (sval q2) ∧ Bd 63 (sval q3) ∧ -2 ≤ t0 ∧ t0 ≤ 2 ∧ 0 ≤ t1 ∧ t1 < 4 ∧ 0 ≤ t2 ∧ t2 < 4 ∧ -2 ≤ t3 ∧ t3 ≤ 2 ∧ 0 ≤ t4 ∧ t4 < 4 ∧ 0 ≤ t5 ∧ t5 < 4 ∧ -2 ≤ t6 ∧ t6 ≤ 2 ∧ 0 ≤ t7 ∧ t7 < 4 ∧ 0 ≤ t8 ∧ t8 < 4 ∧ -2 ≤ t9 ∧ t9 ≤ 2 ∧ 0 ≤ t10 ∧ t10 < 4 ∧ 0 ≤ t11 ∧ t11 < 4 then .val (W (t0 * (sval (pick4 p0 p1 p2 p3 (t1)) * sval (pick4 q0 q1 q2 q3 (t2))) + t3 * (sval (pick4 p0 p1 p2 p3 (t4)) * sval (pick4 q0 q1 q2 q3 (t5))) + t6 * (sval (pick4 p0 p1 p2 p3 (t7)) * sval (pick4 q0 q1 q2 q3 (t8))) + t9 * (sval (pick4 p0 p1 p2 p3 (t10)) * sval (pick4 q0 q1 q2 q3 (t11))))) [] [] else .fail
    | _ => .fail
  | _ => .fail
set_option maxHeartbeats 40000000 in
theorem qsumL_ok : SumOk Tryz.prog 87 qsumLS := by
  refine sum_read (L := fun i => if i = 5 then some (.quiet 15) else none) (n := 5) (S := stOf [(35, pureS ofS), (125, pureS qtimesS), (124, pureS qplusS)]) drawS Tryz.T_ok (stOf_ok (by simp [of_ok, qtimes_ok, qplus_ok])) Tryz.func87 rfl (by kernel_rfl) (by kernel_rfl) ?_
  intro args env nxt h
  unfold qsumLS at h ⊢
  split at h
  · rename_i p0 p1 p2 p3 q0 q1 q2 q3 b c
    split at h
    · rename_i t0 t1 t2 t3 t4 t5 t6 t7 t8 t9 t10 t11 ty0 m0
      split at h
      · rename_i hc
        obtain ⟨hp0, hp1, hp2, hp3, hq0, hq1, hq2, hq3, e0, e1, e2, e3, e4, e5, e6, e7, e8, e9, e10, e11, e12, e13, e14, e15, e16, e17, e18, e19, e20, e21, e22, e23, e24, e25, e26, e27, e28, e29, e30, e31⟩ := id hc
        refine ⟨_, _, _, W (t0 * (sval (pick4 p0 p1 p2 p3 (t1)) * sval (pick4 q0 q1 q2 q3 (t2))) + t3 * (sval (pick4 p0 p1 p2 p3 (t4)) * sval (pick4 q0 q1 q2 q3 (t5))) + t6 * (sval (pick4 p0 p1 p2 p3 (t7)) * sval (pick4 q0 q1 q2 q3 (t8))) + t9 * (sval (pick4 p0 p1 p2 p3 (t10)) * sval (pick4 q0 q1 q2 q3 (t11)))), laid1 [.agg [.arr .u64 8 p0, .arr .u64 8 p1, .arr .u64 8 p2, .arr .u64 8 p3], .agg [.arr .u64 8 q0, .arr .u64 8 q1, .arr .u64 8 q2, .arr .u64 8 q3], .slice 0 0 4 c] rfl (by simp) m0 rfl, by first | exact if_pos hc | (simp only [m0]; exact if_pos hc), by simp, by simp, ?_⟩
        have hp := Bd_pick4 e0 e1 e2 e3
        have hq := Bd_pick4 e4 e5 e6 e7
        have rp := R8_pick4 hp0 hp1 hp2 hp3
        have rq := R8_pick4 hq0 hq1 hq2 hq3
        have s0 := InI_two e8 e9
        have u0 : Bd 126 (sval (pick4 p0 p1 p2 p3 (t1)) * sval (pick4 q0 q1 q2 q3 (t2))) := (hp _).mul (hq _)
        have b0 : Bd 128 (t0 * (sval (pick4 p0 p1 p2 p3 (t1)) * sval (pick4 q0 q1 q2 q3 (t2)))) := (Bd2 e8 e9).mul u0
        have i0 := u0.w (by decide)
        have k0 := b0.w (by decide)
        have s1 := InI_two e14 e15
        have u1 : Bd 126 (sval (pick4 p0 p1 p2 p3 (t4)) * sval (pick4 q0 q1 q2 q3 (t5))) := (hp _).mul (hq _)
        have b1 : Bd 128 (t3 * (sval (pick4 p0 p1 p2 p3 (t4)) * sval (pick4 q0 q1 q2 q3 (t5)))) := (Bd2 e14 e15).mul u1
        have i1 := u1.w (by decide)
        have k1 := b1.w (by decide)
        have s2 := InI_two e20 e21
        have u2 : Bd 126 (sval (pick4 p0 p1 p2 p3 (t7)) * sval (pick4 q0 q1 q2 q3 (t8))) := (hp _).mul (hq _)
        have b2 : Bd 128 (t6 * (sval (pick4 p0 p1 p2 p3 (t7)) * sval (pick4 q0 q1 q2 q3 (t8)))) := (Bd2 e20 e21).mul u2
        have i2 := u2.w (by decide)
        have k2 := b2.w (by decide)
        have s3 := InI_two e26 e27
        have u3 : Bd 126 (sval (pick4 p0 p1 p2 p3 (t10)) * sval (pick4 q0 q1 q2 q3 (t11))) := (hp _).mul (hq _)
        have b3 : Bd 128 (t9 * (sval (pick4 p0 p1 p2 p3 (t10)) * sval (pick4 q0 q1 q2 q3 (t11)))) := (Bd2 e26 e27).mul u3
        have i3 := u3.w (by decide)
        have k3 := b3.w (by decide)
        have d1 := b0.add b1
        have d2 := d1.add (b2.mono (by decide : 128 ≤ 129))
        have d3 := d2.add (b3.mono (by decide : 128 ≤ 130))
        have l1 := d1.w (by decide)
        have l2 := d2.w (by decide)
        have l3 := d3.w (by decide)
        simp (maxSteps := 10000000) [Tryz.f87, R8_limb, rp, rq, ofS_in s0, fitI s0, i0, sval_limb i0, k0, sval_limb k0, cut4 e10 e11, cut4 e12 e13, e10, e11, e12, e13, ofS_in s1, fitI s1, i1, sval_limb i1, k1, sval_limb k1, cut4 e16 e17, cut4 e18 e19, e16, e17, e18, e19, ofS_in s2, fitI s2, i2, sval_limb i2, k2, sval_limb k2, cut4 e22 e23, cut4 e24 e25, e22, e23, e24, e25, ofS_in s3, fitI s3, i3, sval_limb i3, k3, sval_limb k3, cut4 e28 e29, cut4 e30 e31, e28, e29, e30, e31, l1, sval_limb l1, l2, sval_limb l2, l3, R8_zero, sval_zero]
      · simp at h
    · simp at h
  · simp at h
end Go.X
end

section
namespace Go.X
open Go.Proofs
attribute [local irreducible] Good
attribute [simp] Tryz.T_42
def sq4 (a b c d : Int) : Int := a * a + b * b + c * c + d * d
theorem Bd_sq4 {a b c d : Int} (ha : Bd 63 a) (hb : Bd 63 b) (hc : Bd 63 c) (hd : Bd 63 d) : Bd 129 (sq4 a b c d) :=
  (((ha.mul ha).add (hb.mul hb)).add ((hc.mul hc).mono (by decide))).add ((hd.mul hd).mono (by decide))
def TurnP (a b c d : Int) : Prop := 4611686018427387904 ≤ sq4 a b c d ∧ sq4 a b c d ≤ 73786976294838206464
instance (a b c d : Int) : Decidable (TurnP a b c d) := inferInstanceAs (Decidable (_ ∧ _))
def qW (p0 p1 p2 p3 q0 q1 q2 q3 : Int) : Int := 1 * (p0 * q0) + -1 * (p1 * q1) + -1 * (p2 * q2) + -1 * (p3 * q3)
def qX (p0 p1 p2 p3 q0 q1 q2 q3 : Int) : Int := 1 * (p0 * q1) + 1 * (p1 * q0) + 1 * (p2 * q3) + -1 * (p3 * q2)
def qY (p0 p1 p2 p3 q0 q1 q2 q3 : Int) : Int := 1 * (p0 * q2) + 1 * (p2 * q0) + 1 * (p3 * q1) + -1 * (p1 * q3)
def qZ (p0 p1 p2 p3 q0 q1 q2 q3 : Int) : Int := 1 * (p0 * q3) + 1 * (p3 * q0) + 1 * (p1 * q2) + -1 * (p2 * q1)
theorem Bd_q4 {a b c d : Int} {s t u v : Int} (ha : Bd 126 a) (hb : Bd 126 b) (hc : Bd 126 c) (hd : Bd 126 d) (hs : s = 1 ∨ s = -1) (ht : t = 1 ∨ t = -1) (hu : u = 1 ∨ u = -1) (hv : v = 1 ∨ v = -1) : Bd 129 (s * a + t * b + u * c + v * d) := by
  have one : ∀ {z w : Int}, w = 1 ∨ w = -1 → Bd 126 z → Bd 126 (w * z) := by
    intro z w hw hz
    rcases hw with rfl | rfl
    · rwa [Int.one_mul]
    · rw [Int.neg_mul, Int.one_mul]; exact hz.neg
  exact (((one hs ha).add (one ht hb)).add ((one hu hc).mono (by decide))).add ((one hv hd).mono (by decide))
theorem Bd_q {p0 p1 p2 p3 q0 q1 q2 q3 : Int} (h0 : Bd 63 p0) (h1 : Bd 63 p1) (h2 : Bd 63 p2) (h3 : Bd 63 p3) (k0 : Bd 63 q0) (k1 : Bd 63 q1) (k2 : Bd 63 q2) (k3 : Bd 63 q3) :
    Bd 129 (qW p0 p1 p2 p3 q0 q1 q2 q3) ∧ Bd 129 (qX p0 p1 p2 p3 q0 q1 q2 q3) ∧ Bd 129 (qY p0 p1 p2 p3 q0 q1 q2 q3) ∧ Bd 129 (qZ p0 p1 p2 p3 q0 q1 q2 q3) :=
  ⟨Bd_q4 (h0.mul k0) (h1.mul k1) (h2.mul k2) (h3.mul k3) (by simp) (by simp) (by simp) (by simp), Bd_q4 (h0.mul k1) (h1.mul k0) (h2.mul k3) (h3.mul k2) (by simp) (by simp) (by simp) (by simp),
    Bd_q4 (h0.mul k2) (h2.mul k0) (h3.mul k1) (h1.mul k3) (by simp) (by simp) (by simp) (by simp), Bd_q4 (h0.mul k3) (h3.mul k0) (h1.mul k2) (h2.mul k1) (by simp) (by simp) (by simp) (by simp)⟩
noncomputable def qprodS : List AV → PR
  | [.agg [.arr .u64 8 p0, .arr .u64 8 p1, .arr .u64 8 p2, .arr .u64 8 p3], .agg [.arr .u64 8 q0, .arr .u64 8 q1, .arr .u64 8 q2, .arr .u64 8 q3]] => open Classical in if R8 p0 ∧ R8 p1 ∧ R8 p2 ∧ R8 p3 ∧ R8 q0 ∧ R8 q1 ∧ R8 q2 ∧ R8 q3 ∧ Bd 63 (sval p0) ∧ Bd 63 (sval p1) ∧ Bd 63 (sval p2) ∧ Bd 63 (sval p3) ∧ Bd 63 (sval q0) ∧ Bd 63 (sval q1) ∧ Bd 63 (sval q2) ∧ Bd 63 (sval q3) then .val (.agg [W (qW (sval p0) (sval p1) (sval p2) (sval p3) (sval q0) (sval q1) (sval q2) (sval q3)), W (qX (sval p0) (sval p1) (sval p2) (sval p3) (sval q0) (sval q1) (sval q2) (sval q3)), W (qY (sval p0) (sval p1) (sval p2) (sval p3) (sval q0) (sval q1) (sval q2) (sval q3)), W (qZ (sval p0) (sval p1) (sval p2) (sval p3) (sval q0) (sval q1) (sval q2) (sval q3))]) else .fail
  | _ => .fail
@[simp] theorem qprodS_val {p0 p1 p2 p3 q0 q1 q2 q3 : Nat → Int} (h : R8 p0 ∧ R8 p1 ∧ R8 p2 ∧ R8 p3 ∧ R8 q0 ∧ R8 q1 ∧ R8 q2 ∧ R8 q3 ∧ Bd 63 (sval p0) ∧ Bd 63 (sval p1) ∧ Bd 63 (sval p2) ∧ Bd 63 (sval p3) ∧ Bd 63 (sval q0) ∧ Bd 63 (sval q1) ∧ Bd 63 (sval q2) ∧ Bd 63 (sval q3)) : qprodS [.agg [.arr .u64 8 p0, .arr .u64 8 p1, .arr .u64 8 p2, .arr .u64 8 p3], .agg [.arr .u64 8 q0, .arr .u64 8 q1, .arr .u64 8 q2, .arr .u64 8 q3]] = .val (.agg [W (qW (sval p0) (sval p1) (sval p2) (sval p3) (sval q0) (sval q1) (sval q2) (sval q3)), W (qX (sval p0) (sval p1) (sval p2) (sval p3) (sval q0) (sval q1) (sval q2) (sval q3)), W (qY (sval p0) (sval p1) (sval p2) (sval p3) (sval q0) (sval q1) (sval q2) (sval q3)), W (qZ (sval p0) (sval p1) (sval p2) (sval p3) (sval q0) (sval q1) (sval q2) (sval q3))]) := if_pos h
set_option maxHeartbeats 40000000 in
theorem qprod_ok : SumOk Tryz.prog 122 (pureS qprodS) := by
  refine sum_fn (L := fun i => if i = 6 then some (.quiet 6) else none) (n := 5) (S := stOf [(87, qsumLS)]) drawS Tryz.T_ok (stOf_ok (by simp [qsumL_ok])) Tryz.func122 rfl (by kernel_rfl) (by kernel_rfl) ?_
    (by intro args v h; unfold qprodS at h; split at h <;> (try split at h) <;> simp at h)
  intro args v h
  unfold qprodS at h
  split at h
  · rename_i p0 p1 p2 p3 q0 q1 q2 q3
    split at h
    · rename_i hc
      obtain ⟨hp0, hp1, hp2, hp3, hq0, hq1, hq2, hq3, e0, e1, e2, e3, e4, e5, e6, e7⟩ := hc
      cases h
      refine ⟨by simp, by simp, by simp, ?_⟩
      simp (maxSteps := 10000000) [Tryz.f122, hp0, hp1, hp2, hp3, hq0, hq1, hq2, hq3, e0, e1, e2, e3, e4, e5, e6, e7, qsumLS, pick4, qW, qX, qY, qZ]
    · simp at h
  · simp at h
noncomputable def qsquareS : List AV → PR
  | [.agg [.arr .u64 8 p0, .arr .u64 8 p1, .arr .u64 8 p2, .arr .u64 8 p3]] => open Classical in if R8 p0 ∧ R8 p1 ∧ R8 p2 ∧ R8 p3 ∧ Bd 63 (sval p0) ∧ Bd 63 (sval p1) ∧ Bd 63 (sval p2) ∧ Bd 63 (sval p3) then .val (W (sq4 (sval p0) (sval p1) (sval p2) (sval p3))) else .fail
  | _ => .fail
@[simp] theorem qsquareS_val {p0 p1 p2 p3 : Nat → Int} (h : R8 p0 ∧ R8 p1 ∧ R8 p2 ∧ R8 p3 ∧ Bd 63 (sval p0) ∧ Bd 63 (sval p1) ∧ Bd 63 (sval p2) ∧ Bd 63 (sval p3)) : qsquareS [.agg [.arr .u64 8 p0, .arr .u64 8 p1, .arr .u64 8 p2, .arr .u64 8 p3]] = .val (W (sq4 (sval p0) (sval p1) (sval p2) (sval p3))) := if_pos h
set_option maxHeartbeats 4000000 in
theorem qsquare_ok : SumOk Tryz.prog 85 (pureS qsquareS) := by
  refine sum_fn (L := fun i => if i = 5 then some (.quiet 5) else none) (n := 6) (S := stOf [(124, pureS qplusS), (125, pureS qtimesS)]) drawS Tryz.T_ok (stOf_ok (by simp [qplus_ok, qtimes_ok])) Tryz.func85 rfl (by kernel_rfl) (by kernel_rfl) ?_
    (by intro args v h; unfold qsquareS at h; split at h <;> (try split at h) <;> simp at h)
  intro args v h
  unfold qsquareS at h
  split at h
  · rename_i p0 p1 p2 p3
    split at h
    · rename_i hc
      obtain ⟨hp0, hp1, hp2, hp3, e0, e1, e2, e3⟩ := hc
      cases h
      refine ⟨by simp, by simp, by simp, ?_⟩
      have i0 : InW (sval p0 * sval p0) := (e0.mul e0).w (by decide)
      have i1 : InW (sval p1 * sval p1) := (e1.mul e1).w (by decide)
      have i2 : InW (sval p2 * sval p2) := (e2.mul e2).w (by decide)
      have i3 : InW (sval p3 * sval p3) := (e3.mul e3).w (by decide)
      have i4 : InW (sval p0 * sval p0 + sval p1 * sval p1) := ((e0.mul e0).add (e1.mul e1)).w (by decide)
      have i5 : InW (sval p0 * sval p0 + sval p1 * sval p1 + sval p2 * sval p2) := (((e0.mul e0).add (e1.mul e1)).add ((e2.mul e2).mono (by decide : 126 ≤ 127))).w (by decide)
      have i6 : InW (sval p0 * sval p0 + sval p1 * sval p1 + sval p2 * sval p2 + sval p3 * sval p3) := ((((e0.mul e0).add (e1.mul e1)).add ((e2.mul e2).mono (by decide : 126 ≤ 127))).add ((e3.mul e3).mono (by decide : 126 ≤ 128))).w (by decide)
      simp (maxSteps := 10000000) [Tryz.f85, hp0, hp1, hp2, hp3, i0, sval_limb i0, i1, sval_limb i1, i2, sval_limb i2, i3, sval_limb i3, i4, sval_limb i4, i5, sval_limb i5, i6, R8_limb, R8_zero, sval_zero, sq4]
    · simp at h
  · simp at h
end Go.X
end

section
namespace Go.X
open Go.Proofs
attribute [local irreducible] Good
theorem InW_62 : InW 4611686018427387904 := InI.w (by decide)
theorem InW_66 : InW 73786976294838206464 := (show Bd 67 73786976294838206464 by unfold Bd; decide).w (by decide)
theorem InI_1 : InI 1 := by decide
noncomputable def qcheckS : List AV → PR
  | [.agg [.int .i64 a, .int .i64 b, .int .i64 c, .int .i64 d]] => open Classical in if InI a ∧ InI b ∧ InI c ∧ InI d then .val (.int .i64 (if TurnP a b c d then 0 else 9)) else .fail
  | _ => .fail
@[simp] theorem qcheckS_val {a b c d : Int} (h : InI a ∧ InI b ∧ InI c ∧ InI d) : qcheckS [.agg [.int .i64 a, .int .i64 b, .int .i64 c, .int .i64 d]] = .val (.int .i64 (if TurnP a b c d then 0 else 9)) := if_pos h
set_option maxHeartbeats 4000000 in
theorem qcheck_ok : SumOk Tryz.prog 83 (pureS qcheckS) := by
  refine sum_fn (L := fun _ => none) (n := 1) (S := stOf [(84, pureS qrawS), (85, pureS qsquareS), (139, pureS cmpS), (35, pureS ofS), (59, pureS shlS)]) drawS Tryz.T_ok (stOf_ok (by simp [qraw_ok, qsquare_ok, cmp_ok, of_ok, shl_ok])) Tryz.func83 rfl (by kernel_rfl) (by kernel_rfl) ?_
    (by intro args v h; unfold qcheckS at h; split at h <;> (try split at h) <;> simp at h)
  intro args v h
  unfold qcheckS at h
  split at h
  · rename_i a b c d
    split at h
    · rename_i hc
      obtain ⟨ha, hb, hc, hd⟩ := hc
      cases h
      refine ⟨by simp, by simp, by simp, ?_⟩
      have sb := Bd_sq4 (Bd.of ha) (Bd.of hb) (Bd.of hc) (Bd.of hd)
      have si := sb.w (by decide)
      by_cases ll : sq4 a b c d < 4611686018427387904
      · have t : ¬ TurnP a b c d := fun e => by unfold TurnP at e; omega
        have k := cmpI_neg.2 ll
        simp [ha, hb, hc, hd, fitI ha, fitI hb, fitI hc, fitI hd, R8_limb, Bd.of ha, Bd.of hb, Bd.of hc, Bd.of hd, shlV, fitV, InW_62, InW_66, sval_limb InW_62, ofS_in InI_1, fitI InI_1, Tryz.f83, sval_limb si, t, k]
      · have k : ¬ cmpI (sq4 a b c d) 4611686018427387904 < 0 := fun e => ll (cmpI_neg.1 e)
        by_cases hh : 73786976294838206464 < sq4 a b c d
        · have t : ¬ TurnP a b c d := fun e => by unfold TurnP at e; omega
          have k2 := cmpI_pos.2 hh
          simp [ha, hb, hc, hd, fitI ha, fitI hb, fitI hc, fitI hd, R8_limb, Bd.of ha, Bd.of hb, Bd.of hc, Bd.of hd, shlV, fitV, InW_62, InW_66, sval_limb InW_62, sval_limb InW_66, ofS_in InI_1, fitI InI_1, Tryz.f83, sval_limb si, t, k, k2]
        · have t : TurnP a b c d := by unfold TurnP; omega
          have k2 : ¬ 0 < cmpI (sq4 a b c d) 73786976294838206464 := fun e => hh (cmpI_pos.1 e)
          simp [ha, hb, hc, hd, fitI ha, fitI hb, fitI hc, fitI hd, R8_limb, Bd.of ha, Bd.of hb, Bd.of hc, Bd.of hd, shlV, fitV, InW_62, InW_66, sval_limb InW_62, sval_limb InW_66, ofS_in InI_1, fitI InI_1, Tryz.f83, sval_limb si, t, k, k2]
    · simp at h
  · simp at h
noncomputable def r5mulS : List AV → PR
  | [.int .i64 a, .int .i64 b] => open Classical in if InI a ∧ InI b then .val (W (a * b)) else .fail
  | _ => .fail
@[simp] theorem r5mulS_val {a b : Int} (h : InI a ∧ InI b) : r5mulS [.int .i64 a, .int .i64 b] = .val (W (a * b)) := if_pos h
theorem r5mul_ok : SumOk Tryz.prog 105 (pureS r5mulS) := by
  refine sum_fn (L := fun _ => none) (n := 1) (S := stOf [(96, pureS r3rawS), (95, pureS r3timesS)]) drawS Tryz.T_ok (stOf_ok (by simp [r3raw_ok, r3times_ok])) Tryz.func105 rfl (by kernel_rfl) (by kernel_rfl) ?_
    (by intro args v h; unfold r5mulS at h; split at h <;> (try split at h) <;> simp at h)
  intro args v h
  unfold r5mulS at h
  split at h
  · rename_i a b
    split at h
    · rename_i hc
      obtain ⟨ha, hb⟩ := hc
      cases h
      refine ⟨by simp, by simp, by simp, ?_⟩
      have i0 : InW (a * b) := ((Bd.of ha).mul (Bd.of hb)).w (by decide)
      simp [Tryz.f105, ha, hb, fitI ha, fitI hb, i0, R8_limb]
    · simp at h
  · simp at h
noncomputable def r5twoS : List AV → PR
  | [.int .i64 a, .int .i64 b, .int .i64 c, .int .i64 d] => open Classical in if InI a ∧ InI b ∧ InI c ∧ InI d then .val (W (a * b + c * d)) else .fail
  | _ => .fail
@[simp] theorem r5twoS_val {a b c d : Int} (h : InI a ∧ InI b ∧ InI c ∧ InI d) : r5twoS [.int .i64 a, .int .i64 b, .int .i64 c, .int .i64 d] = .val (W (a * b + c * d)) := if_pos h
theorem r5two_ok : SumOk Tryz.prog 155 (pureS r5twoS) := by
  refine sum_fn (L := fun _ => none) (n := 1) (S := stOf [(97, pureS r3plusS), (105, pureS r5mulS)]) drawS Tryz.T_ok (stOf_ok (by simp [r3plus_ok, r5mul_ok])) Tryz.func155 rfl (by kernel_rfl) (by kernel_rfl) ?_
    (by intro args v h; unfold r5twoS at h; split at h <;> (try split at h) <;> simp at h)
  intro args v h
  unfold r5twoS at h
  split at h
  · rename_i a b c d
    split at h
    · rename_i hc
      obtain ⟨ha, hb, hc, hd⟩ := hc
      cases h
      refine ⟨by simp, by simp, by simp, ?_⟩
      have i0 : InW (a * b) := ((Bd.of ha).mul (Bd.of hb)).w (by decide)
      have i1 : InW (c * d) := ((Bd.of hc).mul (Bd.of hd)).w (by decide)
      have i2 : InW (a * b + c * d) := (((Bd.of ha).mul (Bd.of hb)).add ((Bd.of hc).mul (Bd.of hd))).w (by decide)
      simp [Tryz.f155, ha, hb, hc, hd, sval_limb i0, sval_limb i1, i2, R8_limb]
    · simp at h
  · simp at h
noncomputable def r5squareS : List AV → PR
  | [.agg [.int .i64 a, .int .i64 b, .int .i64 c, .int .i64 d]] => open Classical in if InI a ∧ InI b ∧ InI c ∧ InI d then .val (W (sq4 a b c d)) else .fail
  | _ => .fail
@[simp] theorem r5squareS_val {a b c d : Int} (h : InI a ∧ InI b ∧ InI c ∧ InI d) : r5squareS [.agg [.int .i64 a, .int .i64 b, .int .i64 c, .int .i64 d]] = .val (W (sq4 a b c d)) := if_pos h
theorem r5square_ok : SumOk Tryz.prog 104 (pureS r5squareS) := by
  refine sum_fn (L := fun i => if i = 1 then some (.quiet 19) else none) (n := 1) (S := stOf [(97, pureS r3plusS), (155, pureS r5twoS)]) drawS Tryz.T_ok (stOf_ok (by simp [r3plus_ok, r5two_ok])) Tryz.func104 rfl (by kernel_rfl) (by kernel_rfl) ?_
    (by intro args v h; unfold r5squareS at h; split at h <;> (try split at h) <;> simp at h)
  intro args v h
  unfold r5squareS at h
  split at h
  · rename_i a b c d
    split at h
    · rename_i hc
      obtain ⟨ha, hb, hc, hd⟩ := hc
      cases h
      refine ⟨by simp, by simp, by simp, ?_⟩
      have i0 : InW (a * a + b * b) := (((Bd.of ha).mul (Bd.of ha)).add ((Bd.of hb).mul (Bd.of hb))).w (by decide)
      have i1 : InW (c * c + d * d) := (((Bd.of hc).mul (Bd.of hc)).add ((Bd.of hd).mul (Bd.of hd))).w (by decide)
      have i2 : InW (a * a + b * b + (c * c + d * d)) := ((((Bd.of ha).mul (Bd.of ha)).add ((Bd.of hb).mul (Bd.of hb))).add (((Bd.of hc).mul (Bd.of hc)).add ((Bd.of hd).mul (Bd.of hd)))).w (by decide)
      have e : a * a + b * b + (c * c + d * d) = sq4 a b c d := by unfold sq4; grind
      simp [Tryz.f104, ha, hb, hc, hd, sval_limb i0, sval_limb i1, i2, R8_limb]
      rw [e]
      exact Eqv.refl _
    · simp at h
  · simp at h
noncomputable def r5checkS : List AV → PR
  | [.agg [.int .i64 a, .int .i64 b, .int .i64 c, .int .i64 d]] => open Classical in if InI a ∧ InI b ∧ InI c ∧ InI d then .val (.int .i64 (if TurnP a b c d then 0 else 9)) else .fail
  | _ => .fail
@[simp] theorem r5checkS_val {a b c d : Int} (h : InI a ∧ InI b ∧ InI c ∧ InI d) : r5checkS [.agg [.int .i64 a, .int .i64 b, .int .i64 c, .int .i64 d]] = .val (.int .i64 (if TurnP a b c d then 0 else 9)) := if_pos h
set_option maxHeartbeats 4000000 in
theorem r5check_ok : SumOk Tryz.prog 103 (pureS r5checkS) := by
  refine sum_fn (L := fun _ => none) (n := 1) (S := stOf [(152, pureS cmpS), (100, pureS ofS), (99, pureS r3twiceS), (104, pureS r5squareS)]) drawS Tryz.T_ok (stOf_ok (by simp [rcmp_ok, small_ok, r3twice_ok, r5square_ok])) Tryz.func103 rfl (by kernel_rfl) (by kernel_rfl) ?_
    (by intro args v h; unfold r5checkS at h; split at h <;> (try split at h) <;> simp at h)
  intro args v h
  unfold r5checkS at h
  split at h
  · rename_i a b c d
    split at h
    · rename_i hc
      obtain ⟨ha, hb, hc, hd⟩ := hc
      cases h
      refine ⟨by simp, by simp, by simp, ?_⟩
      have sb := Bd_sq4 (Bd.of ha) (Bd.of hb) (Bd.of hc) (Bd.of hd)
      have si := sb.w (by decide)
      by_cases ll : sq4 a b c d < 4611686018427387904
      · have t : ¬ TurnP a b c d := fun e => by unfold TurnP at e; omega
        have k := cmpI_neg.2 ll
        simp [ha, hb, hc, hd, R8_limb, InW_62, sval_limb InW_62, ofS_in InI_1, fitI InI_1, Tryz.f103, sval_limb si, t, k]
      · have k : ¬ cmpI (sq4 a b c d) 4611686018427387904 < 0 := fun e => ll (cmpI_neg.1 e)
        by_cases hh : 73786976294838206464 < sq4 a b c d
        · have t : ¬ TurnP a b c d := fun e => by unfold TurnP at e; omega
          have k2 := cmpI_pos.2 hh
          simp [ha, hb, hc, hd, R8_limb, InW_62, InW_66, sval_limb InW_62, sval_limb InW_66, ofS_in InI_1, fitI InI_1, Tryz.f103, sval_limb si, t, k, k2]
        · have t : TurnP a b c d := by unfold TurnP; omega
          have k2 : ¬ 0 < cmpI (sq4 a b c d) 73786976294838206464 := fun e => hh (cmpI_pos.1 e)
          simp [ha, hb, hc, hd, R8_limb, InW_62, InW_66, sval_limb InW_62, sval_limb InW_66, ofS_in InI_1, fitI InI_1, Tryz.f103, sval_limb si, t, k, k2]
    · simp at h
  · simp at h
end Go.X
end

section
namespace Go.X
open Go.Proofs
attribute [local irreducible] Good
theorem rootI_is {a : Int} (h0 : 0 ≤ a) : 0 ≤ rootI a ∧ rootI a * rootI a ≤ a ∧ a < (rootI a + 1) * (rootI a + 1) := by
  have key : ∃ r : Int, 0 ≤ r ∧ r * r ≤ a ∧ a < (r + 1) * (r + 1) := by
    obtain ⟨n, rfl⟩ := Int.eq_ofNat_of_zero_le h0
    clear h0
    induction n with
    | zero => exact ⟨0, by decide, by decide, by decide⟩
    | succ n ih =>
      obtain ⟨r, h1, h2, h3⟩ := ih
      by_cases hn : (r + 1) * (r + 1) ≤ ((n + 1 : Nat) : Int)
      · refine ⟨r + 1, by omega, hn, ?_⟩
        have : (r + 1 + 1) * (r + 1 + 1) = (r + 1) * (r + 1) + 2 * r + 3 := by grind
        omega
      · exact ⟨r, h1, by omega, by omega⟩
  unfold rootI
  rw [dif_pos key]
  exact Classical.choose_spec key
theorem rootI_le {a : Int} (h0 : 0 ≤ a) : rootI a ≤ a := by
  obtain ⟨r0, r1, -⟩ := rootI_is h0
  by_cases h : rootI a = 0
  · omega
  · have := Int.mul_le_mul_of_nonneg_left (show 1 ≤ rootI a by omega) r0
    omega
theorem Bd.root {k : Nat} {a : Int} (h : Bd k a) (h0 : 0 ≤ a) : Bd k (rootI a) := by
  have h1 := rootI_le h0
  have h2 := (rootI_is h0).1
  unfold Bd at *; omega
theorem Bd.sqroot {k : Nat} {a : Int} (h : Bd k a) (h0 : 0 ≤ a) : Bd k (rootI a * rootI a) := by
  obtain ⟨r0, r1, -⟩ := rootI_is h0
  have := Int.mul_nonneg r0 r0
  unfold Bd at *; omega
theorem Bd.quoI {k : Nat} {a b : Int} (h : Bd k a) (hb : 0 < b) : Bd k (quoI a b) := by
  unfold X.quoI; rw [if_pos hb]; exact h.ediv hb
theorem quoI_nonneg {a b : Int} (h : 0 ≤ a) (hb : 0 < b) : 0 ≤ quoI a b := by
  unfold quoI; rw [if_pos hb]; exact Int.ediv_nonneg h (Int.le_of_lt hb)
theorem remI_bd {a b : Int} (hb : 0 < b) : 0 ≤ remI a b ∧ remI a b < b := by
  obtain ⟨-, h⟩ := quoI_spec a (show b ≠ 0 by omega)
  omega
theorem remI_in {a b : Int} (hb : 0 < b) (h : InW b) : InW (remI a b) := by
  have := remI_bd (a := a) hb
  unfold InW at *; omega
theorem sq_nonneg (x : Int) : 0 ≤ x * x := by
  rcases Int.le_total 0 x with h | h
  · exact Int.mul_nonneg h h
  · exact Int.mul_nonneg_of_nonpos_of_nonpos h h
noncomputable def ratI (x s : Int) : Int :=
  if x < 0 then -(if remI (x * x * 18446744073709551616) s ≠ 0 ∨ rootI (quoI (x * x * 18446744073709551616) s) * rootI (quoI (x * x * 18446744073709551616) s) ≠ quoI (x * x * 18446744073709551616) s
    then rootI (quoI (x * x * 18446744073709551616) s) + 1 else rootI (quoI (x * x * 18446744073709551616) s)) else rootI (quoI (x * x * 18446744073709551616) s)
theorem Turn_pos {a b c d : Int} (h : TurnP a b c d) : 0 < sq4 a b c d := by unfold TurnP at h; omega
noncomputable def qratioS : List AV → PR
  | [.arr .u64 8 f, .arr .u64 8 g] => open Classical in if R8 f ∧ R8 g ∧ Bd 63 (sval f) ∧ 0 < sval g then .val (.int .i64 (clampI (ratI (sval f) (sval g)))) else .fail
  | _ => .fail
@[simp] theorem qratioS_val {f g : Nat → Int} (h : R8 f ∧ R8 g ∧ Bd 63 (sval f) ∧ 0 < sval g) : qratioS [.arr .u64 8 f, .arr .u64 8 g] = .val (.int .i64 (clampI (ratI (sval f) (sval g)))) := if_pos h
set_option maxHeartbeats 40000000 in
theorem qratio_ok : SumOk Tryz.prog 121 (pureS qratioS) := by
  refine sum_fn (L := fun i => if i = 6 then some (.quiet 3) else none) (n := 1) (S := stOf [(39, pureS finS), (124, pureS qplusS), (125, pureS qtimesS), (37, pureS divS), (176, pureS negateS), (35, pureS ofS), (59, pureS shlS), (70, pureS signS), (175, pureS sqrtS)]) drawS Tryz.T_ok (stOf_ok (by simp [fin_ok, qplus_ok, qtimes_ok, div_ok, negate_ok, of_ok, shl_ok, sign_ok, sqrt_ok])) Tryz.func121 rfl (by kernel_rfl) (by kernel_rfl) ?_
    (by intro args v h; unfold qratioS at h; split at h <;> (try split at h) <;> simp at h)
  intro args v h
  unfold qratioS at h
  split at h
  · rename_i f g
    split at h
    · rename_i hc
      obtain ⟨hf, hg, e0, e1⟩ := hc
      cases h
      refine ⟨by simp, by simp, by simp, ?_⟩
      have n0 : 0 ≤ sval f * sval f * 18446744073709551616 := Int.mul_nonneg (sq_nonneg _) (by decide)
      have bn : Bd 190 (sval f * sval f * 18446744073709551616) := by simpa using (e0.mul e0).shl 64
      have b0 := e0.mul e0
      have j0 := b0.w (by decide)
      have jn := bn.w (by decide)
      have bq := bn.quoI e1
      have jq := bq.w (by decide)
      have jr := remI_in (a := sval f * sval f * 18446744073709551616) e1 (sval_range hg)
      have q0 := quoI_nonneg n0 e1
      have br := bq.root q0
      have jt := br.w (by decide)
      have r0 := (rootI_is q0).1
      have bs := bq.sqroot q0
      have js := bs.w (by decide)
      have k1 := (br.add (show Bd 190 1 from (by unfold Bd; decide : Bd 1 1).mono (by decide)))
      have j1 := k1.w (by decide)
      have jm := br.neg.w (by decide)
      have jm1 := k1.neg.w (by decide)
      have sz : sval g ≠ 0 := by omega
      have nq : ¬ quoI (sval f * sval f * 18446744073709551616) (sval g) < 0 := by omega
      by_cases c0 : sval f < 0
      · by_cases c1 : remI (sval f * sval f * 18446744073709551616) (sval g) = 0
        · by_cases c2 : rootI (quoI (sval f * sval f * 18446744073709551616) (sval g)) * rootI (quoI (sval f * sval f * 18446744073709551616) (sval g)) = quoI (sval f * sval f * 18446744073709551616) (sval g)
          · simp (maxSteps := 10000000) [hf, hg, R8_limb, shlV, fitV, rootV, quoV, j0, sval_limb j0, jn, sval_limb jn, jq, sval_limb jq, sval_limb jt, jm, sval_limb jm, sz, nq, sgnI_neg, ratI, eqArr_iff (R8_limb _) (R8_limb _), Tryz.f121, c0, c1, c2]
          · simp (maxSteps := 10000000) [hf, hg, R8_limb, shlV, fitV, rootV, quoV, j0, sval_limb j0, jn, sval_limb jn, jq, sval_limb jq, sval_limb jt, js, sval_limb js, j1, sval_limb j1, jm1, sval_limb jm1, sz, nq, sgnI_neg, ratI, ofS_in InI_1, fitI InI_1, eqArr_iff (R8_limb _) (R8_limb _), Tryz.f121, c0, c1, c2]
        · have c3 : (sgnI (remI (sval f * sval f * 18446744073709551616) (sval g)) != 0) = true := by simp [sgnI_zero, c1]
          simp (maxSteps := 10000000) [hf, hg, R8_limb, shlV, fitV, rootV, quoV, j0, sval_limb j0, jn, sval_limb jn, jq, sval_limb jq, sval_limb jr, sval_limb jt, j1, sval_limb j1, jm1, sval_limb jm1, sz, nq, sgnI_neg, ratI, ofS_in InI_1, fitI InI_1, Tryz.f121, c0, c1, c3]
      · simp (maxSteps := 10000000) [hf, hg, R8_limb, shlV, fitV, rootV, quoV, j0, sval_limb j0, jn, sval_limb jn, jq, sval_limb jq, sval_limb jt, sz, nq, sgnI_neg, ratI, Tryz.f121, c0]
    · simp at h
  · simp at h
noncomputable def qunit1S : Sum := fun args env _ => match args with
  | [.int .i64 k, .ptr p 0, .ptr q 0] => match env p, env q with
    | some ⟨[.arr .u64 8 n0, .arr .u64 8 n1, .arr .u64 8 n2, .arr .u64 8 n3], _⟩, some ⟨[.arr .u64 8 g], _⟩ => open Classical in if R8 n0 ∧ R8 n1 ∧ R8 n2 ∧ R8 n3 ∧ R8 g ∧ 0 ≤ k ∧ k < 4 ∧ Bd 63 (sval n0) ∧ Bd 63 (sval n1) ∧ Bd 63 (sval n2) ∧ Bd 63 (sval n3) ∧ 0 < sval g ∧ p ≠ q then .val (.int .i64 (clampI (ratI (sval (pick4 n0 n1 n2 n3 k)) (sval g)))) [] [] else .fail
    | _, _ => .fail
  | _ => .fail
theorem qunit1_ok : SumOk Tryz.prog 120 qunit1S := by
  refine sum_read (L := fun _ => none) (n := 1) (S := stOf [(121, pureS qratioS)]) drawS Tryz.T_ok (stOf_ok (by simp [qratio_ok])) Tryz.func120 rfl (by kernel_rfl) (by kernel_rfl) ?_
  intro args env nxt h
  unfold qunit1S at h ⊢
  split at h
  · rename_i k p q
    split at h
    · rename_i n0 n1 n2 n3 ty0 g ty1 m0 m1
      split at h
      · rename_i hc
        obtain ⟨hn0, hn1, hn2, hn3, hg, e0, e1, e2, e3, e4, e5, e6, hne⟩ := id hc
        refine ⟨_, _, _, .int .i64 (clampI (ratI (sval (pick4 n0 n1 n2 n3 k)) (sval g))), laid2 [.int .i64 k, .ptr 0 0, .ptr 1 0] rfl (by simp) m0 m1 hne rfl rfl, by first | exact if_pos hc | (simp only [m0, m1]; exact if_pos hc), by simp, by simp, ?_⟩
        have rp := R8_pick4 hn0 hn1 hn2 hn3
        have bp := Bd_pick4 e2 e3 e4 e5
        simp [Tryz.f120, hg, e0, e1, e6, rp, bp, cut4 e0 e1]
      · simp at h
    · simp at h
  · simp at h
noncomputable def qofUnitS : Sum := fun args env _ => match args with
  | [.fn 120 [.ptr p 0, .ptr q 0]] => match env p, env q with
    | some ⟨[.arr .u64 8 n0, .arr .u64 8 n1, .arr .u64 8 n2, .arr .u64 8 n3], _⟩, some ⟨[.arr .u64 8 g], _⟩ => open Classical in if R8 n0 ∧ R8 n1 ∧ R8 n2 ∧ R8 n3 ∧ R8 g ∧ Bd 63 (sval n0) ∧ Bd 63 (sval n1) ∧ Bd 63 (sval n2) ∧ Bd 63 (sval n3) ∧ 0 < sval g ∧ p ≠ q then .val (.agg [.int .i64 (clampI (ratI (sval n0) (sval g))), .int .i64 (clampI (ratI (sval n1) (sval g))), .int .i64 (clampI (ratI (sval n2) (sval g))), .int .i64 (clampI (ratI (sval n3) (sval g)))]) [] [] else .fail
    | _, _ => .fail
  | _ => .fail
theorem qofUnit_ok : SumOk Tryz.prog 119 qofUnitS := by
  refine sum_read (L := fun _ => none) (n := 1) (S := stOf [(120, qunit1S)]) drawS Tryz.T_ok (stOf_ok (by simp [qunit1_ok])) Tryz.func119 rfl (by kernel_rfl) (by kernel_rfl) ?_
  intro args env nxt h
  unfold qofUnitS at h ⊢
  split at h
  · rename_i p q
    split at h
    · rename_i n0 n1 n2 n3 ty0 g ty1 m0 m1
      split at h
      · rename_i hc
        obtain ⟨hn0, hn1, hn2, hn3, hg, e0, e1, e2, e3, e4, hne⟩ := id hc
        refine ⟨_, _, _, .agg [.int .i64 (clampI (ratI (sval n0) (sval g))), .int .i64 (clampI (ratI (sval n1) (sval g))), .int .i64 (clampI (ratI (sval n2) (sval g))), .int .i64 (clampI (ratI (sval n3) (sval g)))], laid2 [.fn 120 [.ptr 0 0, .ptr 1 0]] rfl (by simp) m0 m1 hne rfl rfl, by first | exact if_pos hc | (simp only [m0, m1]; exact if_pos hc), by simp, by simp, ?_⟩
        simp [Tryz.f119, hn0, hn1, hn2, hn3, hg, e0, e1, e2, e3, e4, qunit1S, pick4]
      · simp at h
    · simp at h
  · simp at h
noncomputable def qUnitS : List AV → PR
  | [.agg [.int .i64 a, .int .i64 b, .int .i64 c, .int .i64 d]] => open Classical in if InI a ∧ InI b ∧ InI c ∧ InI d then .val (if TurnP a b c d then .tup [.agg [.int .i64 (clampI (ratI a (sq4 a b c d))), .int .i64 (clampI (ratI b (sq4 a b c d))), .int .i64 (clampI (ratI c (sq4 a b c d))), .int .i64 (clampI (ratI d (sq4 a b c d)))], .int .i64 0] else .tup [.agg [.int .i64 0, .int .i64 0, .int .i64 0, .int .i64 0], .int .i64 9]) else .fail
  | _ => .fail
@[simp] theorem qUnitS_val {a b c d : Int} (h : InI a ∧ InI b ∧ InI c ∧ InI d) : qUnitS [.agg [.int .i64 a, .int .i64 b, .int .i64 c, .int .i64 d]] = .val (if TurnP a b c d then .tup [.agg [.int .i64 (clampI (ratI a (sq4 a b c d))), .int .i64 (clampI (ratI b (sq4 a b c d))), .int .i64 (clampI (ratI c (sq4 a b c d))), .int .i64 (clampI (ratI d (sq4 a b c d)))], .int .i64 0] else .tup [.agg [.int .i64 0, .int .i64 0, .int .i64 0, .int .i64 0], .int .i64 9]) := if_pos h
set_option maxHeartbeats 4000000 in
theorem qUnit_ok : SumOk Tryz.prog 65 (pureS qUnitS) := by
  refine sum_fn (L := fun _ => none) (n := 1) (S := stOf [(83, pureS qcheckS), (84, pureS qrawS), (85, pureS qsquareS), (119, qofUnitS)]) drawS Tryz.T_ok (stOf_ok (by simp [qcheck_ok, qraw_ok, qsquare_ok, qofUnit_ok])) Tryz.func65 rfl (by kernel_rfl) (by kernel_rfl) ?_
    (by intro args v h; unfold qUnitS at h; split at h <;> (try split at h) <;> simp at h)
  intro args v h
  unfold qUnitS at h
  split at h
  · rename_i a b c d
    split at h
    · rename_i hc
      obtain ⟨ha, hb, hc, hd⟩ := hc
      cases h
      refine ⟨by simp, by (split <;> simp), by (split <;> simp), ?_⟩
      have sb := (Bd_sq4 (Bd.of ha) (Bd.of hb) (Bd.of hc) (Bd.of hd)).w (by decide)
      by_cases tt : TurnP a b c d
      · have sp := Turn_pos tt
        simp [ha, hb, hc, hd, fitI ha, fitI hb, fitI hc, fitI hd, R8_limb, Bd.of ha, Bd.of hb, Bd.of hc, Bd.of hd, sval_limb sb, qofUnitS, Tryz.f65, tt, sp]
      · simp [ha, hb, hc, hd, Tryz.f65, tt]
    · simp at h
  · simp at h
end Go.X
end

section
namespace Go.X
open Go.Proofs
attribute [local irreducible] Good
attribute [simp] Tryz.T_127
attribute [simp] Tryz.T_126
def r00 (a b c d : Int) : Int := 1 * (a * a) + 1 * (b * b) + -1 * (c * c) + -1 * (d * d)
def r01 (a b c d : Int) : Int := 2 * (b * c) + -2 * (a * d)
def r02 (a b c d : Int) : Int := 2 * (b * d) + 2 * (a * c)
def r10 (a b c d : Int) : Int := 2 * (b * c) + 2 * (a * d)
def r11 (a b c d : Int) : Int := 1 * (a * a) + -1 * (b * b) + 1 * (c * c) + -1 * (d * d)
def r12 (a b c d : Int) : Int := 2 * (c * d) + -2 * (a * b)
def r20 (a b c d : Int) : Int := 2 * (b * d) + -2 * (a * c)
def r21 (a b c d : Int) : Int := 2 * (c * d) + 2 * (a * b)
def r22 (a b c d : Int) : Int := 1 * (a * a) + -1 * (b * b) + -1 * (c * c) + 1 * (d * d)
theorem laid3 {env : Mem} {args : List AV} (args0 : List AV) {p q r : Nat} {l m n : List AV} {ty ty' ty'' : TypeId} (ha : args = renL (fun i => [p, q, r].getD i 0) args0) (hr : ∀ b ∈ refsL args0, b < 3)
    (hp : env p = some ⟨l, ty⟩) (hq : env q = some ⟨m, ty'⟩) (hs : env r = some ⟨n, ty''⟩) (h1 : p ≠ q) (h2 : p ≠ r) (h3 : q ≠ r) (hl : refsL l = []) (hm : refsL m = []) (hn : refsL n = []) : Laid env args args0 [p, q, r] [⟨l, ty⟩, ⟨m, ty'⟩, ⟨n, ty''⟩] := by
  have three : ∀ i, i < 3 → i = 0 ∨ i = 1 ∨ i = 2 := by omega
  refine ⟨ha, rfl, by simp [h1, h2, h3], hr, ?_, ?_⟩
  · intro i hi
    rcases three i (by simpa using hi) with rfl | rfl | rfl
    · simp [hp, renL_noref _ _ hl]
    · simp [hq, renL_noref _ _ hm]
    · simp [hs, renL_noref _ _ hn]
  · intro i hi
    rcases three i (by simpa using hi) with rfl | rfl | rfl
    · simp [hl]
    · simp [hm]
    · simp [hn]
@[simp] theorem all_three {P : Nat → Prop} : (∀ i, i < 3 → P i) ↔ P 0 ∧ P 1 ∧ P 2 := by
  constructor
  · intro h; exact ⟨h 0 (by omega), h 1 (by omega), h 2 (by omega)⟩
  · rintro ⟨h0, h1, h2⟩ i hi
    have : i = 0 ∨ i = 1 ∨ i = 2 := by omega
    rcases this with rfl | rfl | rfl <;> assumption
theorem Bd_r {a b c d : Int} (ha : Bd 63 a) (hb : Bd 63 b) (hc : Bd 63 c) (hd : Bd 63 d) : Bd 131 (r00 a b c d) ∧ Bd 131 (r01 a b c d) ∧ Bd 131 (r02 a b c d) ∧ Bd 131 (r10 a b c d) ∧ Bd 131 (r11 a b c d) ∧ Bd 131 (r12 a b c d) ∧ Bd 131 (r20 a b c d) ∧ Bd 131 (r21 a b c d) ∧ Bd 131 (r22 a b c d) := by
  have two : ∀ {z w : Int} (k : Int), -2 ≤ k → k ≤ 2 → Bd 63 z → Bd 63 w → Bd 128 (k * (z * w)) := fun k h1 h2 hz hw => (Bd2 h1 h2).mul (hz.mul hw)
  have f : ∀ {s t u v : Int}, Bd 128 s → Bd 128 t → Bd 128 u → Bd 128 v → Bd 131 (s + t + u + v) := fun hs ht hu hv => ((hs.add ht).add (hu.mono (by decide))).add (hv.mono (by decide))
  have g : ∀ {s t : Int}, Bd 128 s → Bd 128 t → Bd 131 (s + t) := fun hs ht => (hs.add ht).mono (by decide)
  refine ⟨f ?_ ?_ ?_ ?_, g ?_ ?_, g ?_ ?_, g ?_ ?_, f ?_ ?_ ?_ ?_, g ?_ ?_, g ?_ ?_, g ?_ ?_, f ?_ ?_ ?_ ?_⟩ <;> first
    | exact two _ (by decide) (by decide) ‹_› ‹_›
noncomputable def qmat4S : Sum := fun args env _ => match args with
  | [.slice b 0 4 _, .ptr p 0, .ptr q 0] => match env b, env p, env q with
    | some ⟨[.arr .i64 12 t], _⟩, some ⟨[.arr .u64 8 n0, .arr .u64 8 n1, .arr .u64 8 n2, .arr .u64 8 n3], _⟩, some ⟨[.arr .u64 8 g], _⟩ => open Classical in if R8 n0 ∧ R8 n1 ∧ R8 n2 ∧ R8 n3 ∧ R8 g ∧ Bd 63 (sval n0) ∧ Bd 63 (sval n1) ∧ Bd 63 (sval n2) ∧ Bd 63 (sval n3) ∧ 0 < sval g ∧ -2 ≤ t 0 ∧ t 0 ≤ 2 ∧ 0 ≤ t 1 ∧ t 1 < 4 ∧ 0 ≤ t 2 ∧ t 2 < 4 ∧ -2 ≤ t 3 ∧ t 3 ≤ 2 ∧ 0 ≤ t 4 ∧ t 4 < 4 ∧ 0 ≤ t 5 ∧ t 5 < 4 ∧ -2 ≤ t 6 ∧ t 6 ≤ 2 ∧ 0 ≤ t 7 ∧ t 7 < 4 ∧ 0 ≤ t 8 ∧ t 8 < 4 ∧ -2 ≤ t 9 ∧ t 9 ≤ 2 ∧ 0 ≤ t 10 ∧ t 10 < 4 ∧ 0 ≤ t 11 ∧ t 11 < 4 ∧ b ≠ p ∧ b ≠ q ∧ p ≠ q then .val (.int .i64 (clampI (quoI ((t 0 * (sval (pick4 n0 n1 n2 n3 (t 1)) * sval (pick4 n0 n1 n2 n3 (t 2))) + t 3 * (sval (pick4 n0 n1 n2 n3 (t 4)) * sval (pick4 n0 n1 n2 n3 (t 5))) + t 6 * (sval (pick4 n0 n1 n2 n3 (t 7)) * sval (pick4 n0 n1 n2 n3 (t 8))) + t 9 * (sval (pick4 n0 n1 n2 n3 (t 10)) * sval (pick4 n0 n1 n2 n3 (t 11)))) * 4294967296) (sval g)))) [] [] else .fail
    | _, _, _ => .fail
  | _ => .fail
set_option maxHeartbeats 40000000 in
theorem qmat4_ok : SumOk Tryz.prog 86 qmat4S := by
  refine sum_read (L := fun _ => none) (n := 1) (S := stOf [(87, qsum4S), (59, pureS shlS), (37, pureS divS), (39, pureS finS)]) drawS Tryz.T_ok (stOf_ok (by simp [qsum4_ok, shl_ok, div_ok, fin_ok])) Tryz.func86 rfl (by kernel_rfl) (by kernel_rfl) ?_
  intro args env nxt h
  unfold qmat4S at h ⊢
  split at h
  · rename_i b c p q
    split at h
    · rename_i t ty0 n0 n1 n2 n3 ty1 g ty2 m0 m1 m2
      split at h
      · rename_i hc
        obtain ⟨hn0, hn1, hn2, hn3, hg, e0, e1, e2, e3, e4, e5, e6, e7, e8, e9, e10, e11, e12, e13, e14, e15, e16, e17, e18, e19, e20, e21, e22, e23, e24, e25, e26, e27, e28, hne0, hne1, hne2⟩ := id hc
        refine ⟨_, _, _, .int .i64 (clampI (quoI ((t 0 * (sval (pick4 n0 n1 n2 n3 (t 1)) * sval (pick4 n0 n1 n2 n3 (t 2))) + t 3 * (sval (pick4 n0 n1 n2 n3 (t 4)) * sval (pick4 n0 n1 n2 n3 (t 5))) + t 6 * (sval (pick4 n0 n1 n2 n3 (t 7)) * sval (pick4 n0 n1 n2 n3 (t 8))) + t 9 * (sval (pick4 n0 n1 n2 n3 (t 10)) * sval (pick4 n0 n1 n2 n3 (t 11)))) * 4294967296) (sval g))), laid3 [.slice 0 0 4 c, .ptr 1 0, .ptr 2 0] rfl (by simp) m0 m1 m2 hne0 hne1 hne2 rfl rfl rfl, by first | exact if_pos hc | (simp only [m0, m1, m2]; exact if_pos hc), by simp, by simp, ?_⟩
        have hp := Bd_pick4 e0 e1 e2 e3
        have b0 : Bd 128 (t 0 * (sval (pick4 n0 n1 n2 n3 (t 1)) * sval (pick4 n0 n1 n2 n3 (t 2)))) := (Bd2 e5 e6).mul ((hp _).mul (hp _))
        have b1 : Bd 128 (t 3 * (sval (pick4 n0 n1 n2 n3 (t 4)) * sval (pick4 n0 n1 n2 n3 (t 5)))) := (Bd2 e11 e12).mul ((hp _).mul (hp _))
        have b2 : Bd 128 (t 6 * (sval (pick4 n0 n1 n2 n3 (t 7)) * sval (pick4 n0 n1 n2 n3 (t 8)))) := (Bd2 e17 e18).mul ((hp _).mul (hp _))
        have b3 : Bd 128 (t 9 * (sval (pick4 n0 n1 n2 n3 (t 10)) * sval (pick4 n0 n1 n2 n3 (t 11)))) := (Bd2 e23 e24).mul ((hp _).mul (hp _))
        have d1 := b0.add b1
        have d2 := d1.add (b2.mono (by decide : 128 ≤ 129))
        have d3 := d2.add (b3.mono (by decide : 128 ≤ 130))
        have ds := d3.w (by decide)
        have dn : Bd 163 ((t 0 * (sval (pick4 n0 n1 n2 n3 (t 1)) * sval (pick4 n0 n1 n2 n3 (t 2))) + t 3 * (sval (pick4 n0 n1 n2 n3 (t 4)) * sval (pick4 n0 n1 n2 n3 (t 5))) + t 6 * (sval (pick4 n0 n1 n2 n3 (t 7)) * sval (pick4 n0 n1 n2 n3 (t 8))) + t 9 * (sval (pick4 n0 n1 n2 n3 (t 10)) * sval (pick4 n0 n1 n2 n3 (t 11)))) * 4294967296) := by simpa using d3.shl 32
        have dw := dn.w (by decide)
        have dq := (dn.quoI e4).w (by decide)
        have sz : sval g ≠ 0 := by omega
        simp (maxSteps := 10000000) [Tryz.f86, hn0, hn1, hn2, hn3, hg, e0, e1, e2, e3, e5, e6, e7, e8, e9, e10, e11, e12, e13, e14, e15, e16, e17, e18, e19, e20, e21, e22, e23, e24, e25, e26, e27, e28, R8_limb, qsum4S, sval_limb ds, dw, sval_limb dw, dq, sval_limb dq, sz, shlV, fitV, quoV]
      · simp at h
    · simp at h
  · simp at h
noncomputable def qmat2S : Sum := fun args env _ => match args with
  | [.slice b 0 2 _, .ptr p 0, .ptr q 0] => match env b, env p, env q with
    | some ⟨[.arr .i64 6 t], _⟩, some ⟨[.arr .u64 8 n0, .arr .u64 8 n1, .arr .u64 8 n2, .arr .u64 8 n3], _⟩, some ⟨[.arr .u64 8 g], _⟩ => open Classical in if R8 n0 ∧ R8 n1 ∧ R8 n2 ∧ R8 n3 ∧ R8 g ∧ Bd 63 (sval n0) ∧ Bd 63 (sval n1) ∧ Bd 63 (sval n2) ∧ Bd 63 (sval n3) ∧ 0 < sval g ∧ -2 ≤ t 0 ∧ t 0 ≤ 2 ∧ 0 ≤ t 1 ∧ t 1 < 4 ∧ 0 ≤ t 2 ∧ t 2 < 4 ∧ -2 ≤ t 3 ∧ t 3 ≤ 2 ∧ 0 ≤ t 4 ∧ t 4 < 4 ∧ 0 ≤ t 5 ∧ t 5 < 4 ∧ b ≠ p ∧ b ≠ q ∧ p ≠ q then .val (.int .i64 (clampI (quoI ((t 0 * (sval (pick4 n0 n1 n2 n3 (t 1)) * sval (pick4 n0 n1 n2 n3 (t 2))) + t 3 * (sval (pick4 n0 n1 n2 n3 (t 4)) * sval (pick4 n0 n1 n2 n3 (t 5)))) * 4294967296) (sval g)))) [] [] else .fail
    | _, _, _ => .fail
  | _ => .fail
set_option maxHeartbeats 40000000 in
theorem qmat2_ok : SumOk Tryz.prog 86 qmat2S := by
  refine sum_read (L := fun _ => none) (n := 1) (S := stOf [(87, qsum2S), (59, pureS shlS), (37, pureS divS), (39, pureS finS)]) drawS Tryz.T_ok (stOf_ok (by simp [qsum2_ok, shl_ok, div_ok, fin_ok])) Tryz.func86 rfl (by kernel_rfl) (by kernel_rfl) ?_
  intro args env nxt h
  unfold qmat2S at h ⊢
  split at h
  · rename_i b c p q
    split at h
    · rename_i t ty0 n0 n1 n2 n3 ty1 g ty2 m0 m1 m2
      split at h
      · rename_i hc
        obtain ⟨hn0, hn1, hn2, hn3, hg, e0, e1, e2, e3, e4, e5, e6, e7, e8, e9, e10, e11, e12, e13, e14, e15, e16, hne0, hne1, hne2⟩ := id hc
        refine ⟨_, _, _, .int .i64 (clampI (quoI ((t 0 * (sval (pick4 n0 n1 n2 n3 (t 1)) * sval (pick4 n0 n1 n2 n3 (t 2))) + t 3 * (sval (pick4 n0 n1 n2 n3 (t 4)) * sval (pick4 n0 n1 n2 n3 (t 5)))) * 4294967296) (sval g))), laid3 [.slice 0 0 2 c, .ptr 1 0, .ptr 2 0] rfl (by simp) m0 m1 m2 hne0 hne1 hne2 rfl rfl rfl, by first | exact if_pos hc | (simp only [m0, m1, m2]; exact if_pos hc), by simp, by simp, ?_⟩
        have hp := Bd_pick4 e0 e1 e2 e3
        have b0 : Bd 128 (t 0 * (sval (pick4 n0 n1 n2 n3 (t 1)) * sval (pick4 n0 n1 n2 n3 (t 2)))) := (Bd2 e5 e6).mul ((hp _).mul (hp _))
        have b1 : Bd 128 (t 3 * (sval (pick4 n0 n1 n2 n3 (t 4)) * sval (pick4 n0 n1 n2 n3 (t 5)))) := (Bd2 e11 e12).mul ((hp _).mul (hp _))
        have d1 := b0.add b1
        have ds := d1.w (by decide)
        have dn : Bd 161 ((t 0 * (sval (pick4 n0 n1 n2 n3 (t 1)) * sval (pick4 n0 n1 n2 n3 (t 2))) + t 3 * (sval (pick4 n0 n1 n2 n3 (t 4)) * sval (pick4 n0 n1 n2 n3 (t 5)))) * 4294967296) := by simpa using d1.shl 32
        have dw := dn.w (by decide)
        have dq := (dn.quoI e4).w (by decide)
        have sz : sval g ≠ 0 := by omega
        simp (maxSteps := 10000000) [Tryz.f86, hn0, hn1, hn2, hn3, hg, e0, e1, e2, e3, e5, e6, e7, e8, e9, e10, e11, e12, e13, e14, e15, e16, R8_limb, qsum2S, sval_limb ds, dw, sval_limb dw, dq, sval_limb dq, sz, shlV, fitV, quoV]
      · simp at h
    · simp at h
  · simp at h
noncomputable def qMatrixS : List AV → PR
  | [.agg [.int .i64 a, .int .i64 b, .int .i64 c, .int .i64 d]] => open Classical in if InI a ∧ InI b ∧ InI c ∧ InI d then .val (if TurnP a b c d then .tup [.agg [.int .i64 (clampI (quoI (r00 a b c d * 4294967296) (sq4 a b c d))), .int .i64 (clampI (quoI (r01 a b c d * 4294967296) (sq4 a b c d))), .int .i64 (clampI (quoI (r02 a b c d * 4294967296) (sq4 a b c d))), .int .i64 (clampI (quoI (r10 a b c d * 4294967296) (sq4 a b c d))), .int .i64 (clampI (quoI (r11 a b c d * 4294967296) (sq4 a b c d))), .int .i64 (clampI (quoI (r12 a b c d * 4294967296) (sq4 a b c d))), .int .i64 (clampI (quoI (r20 a b c d * 4294967296) (sq4 a b c d))), .int .i64 (clampI (quoI (r21 a b c d * 4294967296) (sq4 a b c d))), .int .i64 (clampI (quoI (r22 a b c d * 4294967296) (sq4 a b c d)))], .int .i64 0] else .tup [.agg [.int .i64 0, .int .i64 0, .int .i64 0, .int .i64 0, .int .i64 0, .int .i64 0, .int .i64 0, .int .i64 0, .int .i64 0], .int .i64 9]) else .fail
  | _ => .fail
@[simp] theorem qMatrixS_val {a b c d : Int} (h : InI a ∧ InI b ∧ InI c ∧ InI d) : qMatrixS [.agg [.int .i64 a, .int .i64 b, .int .i64 c, .int .i64 d]] = .val (if TurnP a b c d then .tup [.agg [.int .i64 (clampI (quoI (r00 a b c d * 4294967296) (sq4 a b c d))), .int .i64 (clampI (quoI (r01 a b c d * 4294967296) (sq4 a b c d))), .int .i64 (clampI (quoI (r02 a b c d * 4294967296) (sq4 a b c d))), .int .i64 (clampI (quoI (r10 a b c d * 4294967296) (sq4 a b c d))), .int .i64 (clampI (quoI (r11 a b c d * 4294967296) (sq4 a b c d))), .int .i64 (clampI (quoI (r12 a b c d * 4294967296) (sq4 a b c d))), .int .i64 (clampI (quoI (r20 a b c d * 4294967296) (sq4 a b c d))), .int .i64 (clampI (quoI (r21 a b c d * 4294967296) (sq4 a b c d))), .int .i64 (clampI (quoI (r22 a b c d * 4294967296) (sq4 a b c d)))], .int .i64 0] else .tup [.agg [.int .i64 0, .int .i64 0, .int .i64 0, .int .i64 0, .int .i64 0, .int .i64 0, .int .i64 0, .int .i64 0, .int .i64 0], .int .i64 9]) := if_pos h
set_option maxHeartbeats 40000000 in
set_option maxRecDepth 100000 in
theorem qMatrix_ok : SumOk Tryz.prog 41 (pureS qMatrixS) := by
  refine sum_fn (L := fun i => if i = 12 then some (.quiet 16) else none) (n := 5) (S := stOf [(83, pureS qcheckS), (84, pureS qrawS), (85, pureS qsquareS), (86, orS qmat4S qmat2S)]) drawS Tryz.T_ok (stOf_ok (by simp [qcheck_ok, qraw_ok, qsquare_ok, orS_ok qmat4_ok qmat2_ok])) Tryz.func41 rfl (by kernel_rfl) (by kernel_rfl) ?_
    (by intro args v h; unfold qMatrixS at h; split at h <;> (try split at h) <;> simp at h)
  intro args v h
  unfold qMatrixS at h
  split at h
  · rename_i a b c d
    split at h
    · rename_i hc
      obtain ⟨ha, hb, hc, hd⟩ := hc
      cases h
      refine ⟨by simp, by (split <;> simp), by (split <;> simp), ?_⟩
      have sb := (Bd_sq4 (Bd.of ha) (Bd.of hb) (Bd.of hc) (Bd.of hd)).w (by decide)
      by_cases tt : TurnP a b c d
      · have sp := Turn_pos tt
        simp (maxSteps := 10000000) [ha, hb, hc, hd, fitI ha, fitI hb, fitI hc, fitI hd, R8_limb, Bd.of ha, Bd.of hb, Bd.of hc, Bd.of hd, sval_limb sb, orS, qmat4S, qmat2S, pick4, r00, r01, r02, r10, r11, r12, r20, r21, r22, Tryz.f41, tt, sp]
      · simp [ha, hb, hc, hd, Tryz.f41, tt]
    · simp at h
  · simp at h
noncomputable def r5byS : List AV → PR
  | [.arr .u64 8 f, .arr .u64 8 g] => open Classical in if R8 f ∧ R8 g ∧ InW (sval f * 4294967296) ∧ sval g ≠ 0 ∧ InW (quoI (sval f * 4294967296) (sval g)) then .val (.int .i64 (clampI (quoI (sval f * 4294967296) (sval g)))) else .fail
  | _ => .fail
@[simp] theorem r5byS_val {f g : Nat → Int} (h : R8 f ∧ R8 g ∧ InW (sval f * 4294967296) ∧ sval g ≠ 0 ∧ InW (quoI (sval f * 4294967296) (sval g))) : r5byS [.arr .u64 8 f, .arr .u64 8 g] = .val (.int .i64 (clampI (quoI (sval f * 4294967296) (sval g)))) := if_pos h
theorem r5by_ok : SumOk Tryz.prog 106 (pureS r5byS) := by
  refine sum_fn (L := fun i => if i = 1 then some (.held 10 [6, 7]) else none) (n := 1) (S := stOf [(98, pureS divS), (101, pureS rwithinS), (99, pureS r3twiceS)]) drawS Tryz.T_ok (stOf_ok (by simp [rdiv_ok, rwithin_ok, r3twice_ok])) Tryz.func106 rfl (by kernel_rfl) (by kernel_rfl) ?_
    (by intro args v h; unfold r5byS at h; split at h <;> (try split at h) <;> simp at h)
  intro args v h
  unfold r5byS at h
  split at h
  · rename_i f g
    split at h
    · rename_i hc
      obtain ⟨hf, hg, e0, e1, e2⟩ := hc
      cases h
      refine ⟨by simp, by simp, by simp, ?_⟩
      simp [Tryz.f106, hf, hg, e0, e1, e2, R8_limb, quoV, sval_limb e0, sval_limb e2]
    · simp at h
  · simp at h
noncomputable def qspin1S : Sum := fun args env _ => match args with
  | [.int .i64 k, .ptr p 0, .ptr q 0, .ptr r 0] => match env p, env q, env r with
    | some ⟨[.arr .u64 8 n0, .arr .u64 8 n1, .arr .u64 8 n2, .arr .u64 8 n3], _⟩, some ⟨[.int .i64 t], _⟩, some ⟨[.arr .u64 8 o0, .arr .u64 8 o1, .arr .u64 8 o2, .arr .u64 8 o3], _⟩ => open Classical in if R8 n0 ∧ R8 n1 ∧ R8 n2 ∧ R8 n3 ∧ InI t ∧ R8 o0 ∧ R8 o1 ∧ R8 o2 ∧ R8 o3 ∧ 0 ≤ k ∧ k < 4 ∧ Bd 63 (sval n0) ∧ Bd 63 (sval n1) ∧ Bd 63 (sval n2) ∧ Bd 63 (sval n3) ∧ Bd 129 (sval o0) ∧ Bd 129 (sval o1) ∧ Bd 129 (sval o2) ∧ Bd 129 (sval o3) ∧ p ≠ q ∧ p ≠ r ∧ q ≠ r then .val (.int .i64 (clampI ((sval (pick4 n0 n1 n2 n3 k) * 36893488147419103232 + t * sval (pick4 o0 o1 o2 o3 k)) / 2 ^ 65))) [] [] else .fail
    | _, _, _ => .fail
  | _ => .fail
set_option maxHeartbeats 4000000 in
theorem qspin1_ok : SumOk Tryz.prog 123 qspin1S := by
  refine sum_read (L := fun _ => none) (n := 1) (S := stOf [(39, pureS finS), (124, pureS qplusS), (125, pureS qtimesS), (35, pureS ofS), (59, pureS shlS)]) drawS Tryz.T_ok (stOf_ok (by simp [fin_ok, qplus_ok, qtimes_ok, of_ok, shl_ok])) Tryz.func123 rfl (by kernel_rfl) (by kernel_rfl) ?_
  intro args env nxt h
  unfold qspin1S at h ⊢
  split at h
  · rename_i k p q r
    split at h
    · rename_i n0 n1 n2 n3 ty0 t ty1 o0 o1 o2 o3 ty2 m0 m1 m2
      split at h
      · rename_i hc
        obtain ⟨hn0, hn1, hn2, hn3, ht, ho0, ho1, ho2, ho3, e0, e1, e2, e3, e4, e5, e6, e7, e8, e9, hne0, hne1, hne2⟩ := id hc
        refine ⟨_, _, _, .int .i64 (clampI ((sval (pick4 n0 n1 n2 n3 k) * 36893488147419103232 + t * sval (pick4 o0 o1 o2 o3 k)) / 2 ^ 65)), laid3 [.int .i64 k, .ptr 0 0, .ptr 1 0, .ptr 2 0] rfl (by simp) m0 m1 m2 hne0 hne1 hne2 rfl rfl rfl, by first | exact if_pos hc | (simp only [m0, m1, m2]; exact if_pos hc), by simp, by simp, ?_⟩
        have rp := R8_pick4 hn0 hn1 hn2 hn3
        have ro := R8_pick4 ho0 ho1 ho2 ho3
        have bp := Bd_pick4 e2 e3 e4 e5 k
        have bo := Bd_pick4 e6 e7 e8 e9 k
        have u0 : Bd 128 (sval (pick4 n0 n1 n2 n3 k) * 36893488147419103232) := by simpa using bp.shl 65
        have u1 := (Bd.of ht).mul bo
        have v0 := u0.w (by decide)
        have v1 := u1.w (by decide)
        have v2 := ((u0.mono (by decide : 128 ≤ 192)).add u1).w (by decide)
        simp [Tryz.f123, e0, e1, R8_limb, rp, ro, cut4 e0 e1, ofS_in ht, fitI ht, v0, sval_limb v0, v1, sval_limb v1, v2, sval_limb v2, shlV, fitV]
      · simp at h
    · simp at h
  · simp at h
noncomputable def qofSpinS : Sum := fun args env _ => match args with
  | [.fn 123 [.ptr p 0, .ptr q 0, .ptr r 0]] => match env p, env q, env r with
    | some ⟨[.arr .u64 8 n0, .arr .u64 8 n1, .arr .u64 8 n2, .arr .u64 8 n3], _⟩, some ⟨[.int .i64 t], _⟩, some ⟨[.arr .u64 8 o0, .arr .u64 8 o1, .arr .u64 8 o2, .arr .u64 8 o3], _⟩ => open Classical in if R8 n0 ∧ R8 n1 ∧ R8 n2 ∧ R8 n3 ∧ InI t ∧ R8 o0 ∧ R8 o1 ∧ R8 o2 ∧ R8 o3 ∧ Bd 63 (sval n0) ∧ Bd 63 (sval n1) ∧ Bd 63 (sval n2) ∧ Bd 63 (sval n3) ∧ Bd 129 (sval o0) ∧ Bd 129 (sval o1) ∧ Bd 129 (sval o2) ∧ Bd 129 (sval o3) ∧ p ≠ q ∧ p ≠ r ∧ q ≠ r then .val (.agg [.int .i64 (clampI ((sval n0 * 36893488147419103232 + t * sval o0) / 2 ^ 65)), .int .i64 (clampI ((sval n1 * 36893488147419103232 + t * sval o1) / 2 ^ 65)), .int .i64 (clampI ((sval n2 * 36893488147419103232 + t * sval o2) / 2 ^ 65)), .int .i64 (clampI ((sval n3 * 36893488147419103232 + t * sval o3) / 2 ^ 65))]) [] [] else .fail
    | _, _, _ => .fail
  | _ => .fail
theorem qofSpin_ok : SumOk Tryz.prog 119 qofSpinS := by
  refine sum_read (L := fun _ => none) (n := 1) (S := stOf [(123, qspin1S)]) drawS Tryz.T_ok (stOf_ok (by simp [qspin1_ok])) Tryz.func119 rfl (by kernel_rfl) (by kernel_rfl) ?_
  intro args env nxt h
  unfold qofSpinS at h ⊢
  split at h
  · rename_i p q r
    split at h
    · rename_i n0 n1 n2 n3 ty0 t ty1 o0 o1 o2 o3 ty2 m0 m1 m2
      split at h
      · rename_i hc
        obtain ⟨hn0, hn1, hn2, hn3, ht, ho0, ho1, ho2, ho3, e0, e1, e2, e3, e4, e5, e6, e7, hne0, hne1, hne2⟩ := id hc
        refine ⟨_, _, _, .agg [.int .i64 (clampI ((sval n0 * 36893488147419103232 + t * sval o0) / 2 ^ 65)), .int .i64 (clampI ((sval n1 * 36893488147419103232 + t * sval o1) / 2 ^ 65)), .int .i64 (clampI ((sval n2 * 36893488147419103232 + t * sval o2) / 2 ^ 65)), .int .i64 (clampI ((sval n3 * 36893488147419103232 + t * sval o3) / 2 ^ 65))], laid3 [.fn 123 [.ptr 0 0, .ptr 1 0, .ptr 2 0]] rfl (by simp) m0 m1 m2 hne0 hne1 hne2 rfl rfl rfl, by first | exact if_pos hc | (simp only [m0, m1, m2]; exact if_pos hc), by simp, by simp, ?_⟩
        simp [Tryz.f119, hn0, hn1, hn2, hn3, ht, ho0, ho1, ho2, ho3, e0, e1, e2, e3, e4, e5, e6, e7, qspin1S, pick4]
      · simp at h
    · simp at h
  · simp at h
noncomputable def qSpinS : List AV → PR
  | [.agg [.int .i64 a, .int .i64 b, .int .i64 c, .int .i64 d], .agg [.int .i64 x, .int .i64 y, .int .i64 z], .int .i64 t] => open Classical in if InI a ∧ InI b ∧ InI c ∧ InI d ∧ InI x ∧ InI y ∧ InI z ∧ InI t then .val (.agg [.int .i64 (clampI ((a * 36893488147419103232 + t * qW 0 x y z a b c d) / 2 ^ 65)), .int .i64 (clampI ((b * 36893488147419103232 + t * qX 0 x y z a b c d) / 2 ^ 65)), .int .i64 (clampI ((c * 36893488147419103232 + t * qY 0 x y z a b c d) / 2 ^ 65)), .int .i64 (clampI ((d * 36893488147419103232 + t * qZ 0 x y z a b c d) / 2 ^ 65))]) else .fail
  | _ => .fail
@[simp] theorem qSpinS_val {a b c d x y z t : Int} (h : InI a ∧ InI b ∧ InI c ∧ InI d ∧ InI x ∧ InI y ∧ InI z ∧ InI t) : qSpinS [.agg [.int .i64 a, .int .i64 b, .int .i64 c, .int .i64 d], .agg [.int .i64 x, .int .i64 y, .int .i64 z], .int .i64 t] = .val (.agg [.int .i64 (clampI ((a * 36893488147419103232 + t * qW 0 x y z a b c d) / 2 ^ 65)), .int .i64 (clampI ((b * 36893488147419103232 + t * qX 0 x y z a b c d) / 2 ^ 65)), .int .i64 (clampI ((c * 36893488147419103232 + t * qY 0 x y z a b c d) / 2 ^ 65)), .int .i64 (clampI ((d * 36893488147419103232 + t * qZ 0 x y z a b c d) / 2 ^ 65))]) := if_pos h
set_option maxHeartbeats 4000000 in
theorem qSpin_ok : SumOk Tryz.prog 66 (pureS qSpinS) := by
  refine sum_fn (L := fun i => if i = 2 then some (.quiet 11) else none) (n := 1) (S := stOf [(84, pureS qrawS), (122, pureS qprodS), (119, qofSpinS)]) drawS Tryz.T_ok (stOf_ok (by simp [qraw_ok, qprod_ok, qofSpin_ok])) Tryz.func66 rfl (by kernel_rfl) (by kernel_rfl) ?_
    (by intro args v h; unfold qSpinS at h; split at h <;> (try split at h) <;> simp at h)
  intro args v h
  unfold qSpinS at h
  split at h
  · rename_i a b c d x y z t
    split at h
    · rename_i hc
      obtain ⟨ha, hb, hc, hd, hx, hy, hz, ht⟩ := hc
      cases h
      refine ⟨by simp, by simp, by simp, ?_⟩
      have bz : Bd 63 0 := Bd.zero
      obtain ⟨u0, u1, u2, u3⟩ := Bd_q bz (Bd.of hx) (Bd.of hy) (Bd.of hz) (Bd.of ha) (Bd.of hb) (Bd.of hc) (Bd.of hd)
      have v0 := u0.w (by decide)
      have v1 := u1.w (by decide)
      have v2 := u2.w (by decide)
      have v3 := u3.w (by decide)
      simp [Tryz.f66, ha, hb, hc, hd, hx, hy, hz, ht, fitI ha, fitI hb, fitI hc, fitI hd, fitI hx, fitI hy, fitI hz, R8_limb, Bd.of ha, Bd.of hb, Bd.of hc, Bd.of hd, Bd.of hx, Bd.of hy, Bd.of hz, bz, InI_zero, u0, u1, u2, u3, sval_limb v0, sval_limb v1, sval_limb v2, sval_limb v3, qofSpinS]
    · simp at h
  · simp at h
end Go.X
end

section
namespace Go.X
open Go.Proofs
attribute [local irreducible] Good
theorem InI_clamp (z : Int) : InI (clampI z) := clampI_in z
noncomputable def r5MatrixS : List AV → PR
  | [.agg [.int .i64 a, .int .i64 b, .int .i64 c, .int .i64 d]] => open Classical in if InI a ∧ InI b ∧ InI c ∧ InI d then .val (if TurnP a b c d then .tup [.agg [.int .i64 (clampI (quoI (r00 a b c d * 4294967296) (sq4 a b c d))), .int .i64 (clampI (quoI (r01 a b c d * 4294967296) (sq4 a b c d))), .int .i64 (clampI (quoI (r02 a b c d * 4294967296) (sq4 a b c d))), .int .i64 (clampI (quoI (r10 a b c d * 4294967296) (sq4 a b c d))), .int .i64 (clampI (quoI (r11 a b c d * 4294967296) (sq4 a b c d))), .int .i64 (clampI (quoI (r12 a b c d * 4294967296) (sq4 a b c d))), .int .i64 (clampI (quoI (r20 a b c d * 4294967296) (sq4 a b c d))), .int .i64 (clampI (quoI (r21 a b c d * 4294967296) (sq4 a b c d))), .int .i64 (clampI (quoI (r22 a b c d * 4294967296) (sq4 a b c d)))], .int .i64 0] else .tup [.agg [.int .i64 0, .int .i64 0, .int .i64 0, .int .i64 0, .int .i64 0, .int .i64 0, .int .i64 0, .int .i64 0, .int .i64 0], .int .i64 9]) else .fail
  | _ => .fail
@[simp] theorem r5MatrixS_val {a b c d : Int} (h : InI a ∧ InI b ∧ InI c ∧ InI d) : r5MatrixS [.agg [.int .i64 a, .int .i64 b, .int .i64 c, .int .i64 d]] = .val (if TurnP a b c d then .tup [.agg [.int .i64 (clampI (quoI (r00 a b c d * 4294967296) (sq4 a b c d))), .int .i64 (clampI (quoI (r01 a b c d * 4294967296) (sq4 a b c d))), .int .i64 (clampI (quoI (r02 a b c d * 4294967296) (sq4 a b c d))), .int .i64 (clampI (quoI (r10 a b c d * 4294967296) (sq4 a b c d))), .int .i64 (clampI (quoI (r11 a b c d * 4294967296) (sq4 a b c d))), .int .i64 (clampI (quoI (r12 a b c d * 4294967296) (sq4 a b c d))), .int .i64 (clampI (quoI (r20 a b c d * 4294967296) (sq4 a b c d))), .int .i64 (clampI (quoI (r21 a b c d * 4294967296) (sq4 a b c d))), .int .i64 (clampI (quoI (r22 a b c d * 4294967296) (sq4 a b c d)))], .int .i64 0] else .tup [.agg [.int .i64 0, .int .i64 0, .int .i64 0, .int .i64 0, .int .i64 0, .int .i64 0, .int .i64 0, .int .i64 0, .int .i64 0], .int .i64 9]) := if_pos h
set_option maxHeartbeats 40000000 in
set_option maxRecDepth 100000 in
theorem r5Matrix_ok : SumOk Tryz.prog 46 (pureS r5MatrixS) := by
  refine sum_fn (L := fun i => if i = 4 then some (.quiet 24) else if i = 5 then some (.quiet 18) else if i = 6 then some (.quiet 18) else if i = 8 then some (.quiet 12) else if i = 9 then some (.quiet 9) else if i = 10 then some (.quiet 9) else if i = 11 then some (.quiet 9) else if i = 12 then some (.quiet 12) else if i = 13 then some (.quiet 9) else if i = 14 then some (.quiet 9) else if i = 15 then some (.quiet 9) else if i = 16 then some (.quiet 12) else none) (n := 1) (S := stOf [(107, pureS r3lessS), (97, pureS r3plusS), (99, pureS r3twiceS), (103, pureS r5checkS), (104, pureS r5squareS), (106, pureS r5byS), (105, pureS r5mulS)]) drawS Tryz.T_ok (stOf_ok (by simp [r3less_ok, r3plus_ok, r3twice_ok, r5check_ok, r5square_ok, r5by_ok, r5mul_ok])) Tryz.func46 rfl (by kernel_rfl) (by kernel_rfl) ?_
    (by intro args v h; unfold r5MatrixS at h; split at h <;> (try split at h) <;> simp at h)
  intro args v h
  unfold r5MatrixS at h
  split at h
  · rename_i a b c d
    split at h
    · rename_i hc
      obtain ⟨ha, hb, hc, hd⟩ := hc
      cases h
      refine ⟨by simp, by (split <;> simp), by (split <;> simp), ?_⟩
      have i0 : InW (a * a) := ((Bd.of ha).mul (Bd.of ha)).w (by decide)
      have i1 : InW (b * b) := ((Bd.of hb).mul (Bd.of hb)).w (by decide)
      have i2 : InW (c * c) := ((Bd.of hc).mul (Bd.of hc)).w (by decide)
      have i3 : InW (d * d) := ((Bd.of hd).mul (Bd.of hd)).w (by decide)
      have i4 : InW (b * c) := ((Bd.of hb).mul (Bd.of hc)).w (by decide)
      have i5 : InW (b * d) := ((Bd.of hb).mul (Bd.of hd)).w (by decide)
      have i6 : InW (c * d) := ((Bd.of hc).mul (Bd.of hd)).w (by decide)
      have i7 : InW (a * b) := ((Bd.of ha).mul (Bd.of hb)).w (by decide)
      have i8 : InW (a * c) := ((Bd.of ha).mul (Bd.of hc)).w (by decide)
      have i9 : InW (a * d) := ((Bd.of ha).mul (Bd.of hd)).w (by decide)
      have i10 : InW (a * a + b * b) := (((Bd.of ha).mul (Bd.of ha)).add ((Bd.of hb).mul (Bd.of hb))).w (by decide)
      have i11 : InW (c * c + d * d) := (((Bd.of hc).mul (Bd.of hc)).add ((Bd.of hd).mul (Bd.of hd))).w (by decide)
      have i12 : InW (a * a + c * c) := (((Bd.of ha).mul (Bd.of ha)).add ((Bd.of hc).mul (Bd.of hc))).w (by decide)
      have i13 : InW (b * b + d * d) := (((Bd.of hb).mul (Bd.of hb)).add ((Bd.of hd).mul (Bd.of hd))).w (by decide)
      have i14 : InW (a * a + d * d) := (((Bd.of ha).mul (Bd.of ha)).add ((Bd.of hd).mul (Bd.of hd))).w (by decide)
      have i15 : InW (b * b + c * c) := (((Bd.of hb).mul (Bd.of hb)).add ((Bd.of hc).mul (Bd.of hc))).w (by decide)
      have i16 : InW (b * c - a * d) := (((Bd.of hb).mul (Bd.of hc)).sub ((Bd.of ha).mul (Bd.of hd))).w (by decide)
      have i17 : InW (b * d + a * c) := (((Bd.of hb).mul (Bd.of hd)).add ((Bd.of ha).mul (Bd.of hc))).w (by decide)
      have i18 : InW (b * c + a * d) := (((Bd.of hb).mul (Bd.of hc)).add ((Bd.of ha).mul (Bd.of hd))).w (by decide)
      have i19 : InW (c * d - a * b) := (((Bd.of hc).mul (Bd.of hd)).sub ((Bd.of ha).mul (Bd.of hb))).w (by decide)
      have i20 : InW (b * d - a * c) := (((Bd.of hb).mul (Bd.of hd)).sub ((Bd.of ha).mul (Bd.of hc))).w (by decide)
      have i21 : InW (c * d + a * b) := (((Bd.of hc).mul (Bd.of hd)).add ((Bd.of ha).mul (Bd.of hb))).w (by decide)
      have sb := (Bd_sq4 (Bd.of ha) (Bd.of hb) (Bd.of hc) (Bd.of hd)).w (by decide)
      obtain ⟨ur00, ur01, ur02, ur10, ur11, ur12, ur20, ur21, ur22⟩ := Bd_r (Bd.of ha) (Bd.of hb) (Bd.of hc) (Bd.of hd)
      have eqr00 : a * a + b * b - (c * c + d * d) = r00 a b c d := by unfold r00; grind
      have vr00 := ur00.w (by decide)
      have nr00 : Bd 163 (r00 a b c d * 4294967296) := by simpa using ur00.shl 32
      have mr00 := nr00.w (by decide)
      have eqr01 : (b * c - a * d) * 2 = r01 a b c d := by unfold r01; grind
      have vr01 := ur01.w (by decide)
      have nr01 : Bd 163 (r01 a b c d * 4294967296) := by simpa using ur01.shl 32
      have mr01 := nr01.w (by decide)
      have eqr02 : (b * d + a * c) * 2 = r02 a b c d := by unfold r02; grind
      have vr02 := ur02.w (by decide)
      have nr02 : Bd 163 (r02 a b c d * 4294967296) := by simpa using ur02.shl 32
      have mr02 := nr02.w (by decide)
      have eqr10 : (b * c + a * d) * 2 = r10 a b c d := by unfold r10; grind
      have vr10 := ur10.w (by decide)
      have nr10 : Bd 163 (r10 a b c d * 4294967296) := by simpa using ur10.shl 32
      have mr10 := nr10.w (by decide)
      have eqr11 : a * a + c * c - (b * b + d * d) = r11 a b c d := by unfold r11; grind
      have vr11 := ur11.w (by decide)
      have nr11 : Bd 163 (r11 a b c d * 4294967296) := by simpa using ur11.shl 32
      have mr11 := nr11.w (by decide)
      have eqr12 : (c * d - a * b) * 2 = r12 a b c d := by unfold r12; grind
      have vr12 := ur12.w (by decide)
      have nr12 : Bd 163 (r12 a b c d * 4294967296) := by simpa using ur12.shl 32
      have mr12 := nr12.w (by decide)
      have eqr20 : (b * d - a * c) * 2 = r20 a b c d := by unfold r20; grind
      have vr20 := ur20.w (by decide)
      have nr20 : Bd 163 (r20 a b c d * 4294967296) := by simpa using ur20.shl 32
      have mr20 := nr20.w (by decide)
      have eqr21 : (c * d + a * b) * 2 = r21 a b c d := by unfold r21; grind
      have vr21 := ur21.w (by decide)
      have nr21 : Bd 163 (r21 a b c d * 4294967296) := by simpa using ur21.shl 32
      have mr21 := nr21.w (by decide)
      have eqr22 : a * a + d * d - (b * b + c * c) = r22 a b c d := by unfold r22; grind
      have vr22 := ur22.w (by decide)
      have nr22 : Bd 163 (r22 a b c d * 4294967296) := by simpa using ur22.shl 32
      have mr22 := nr22.w (by decide)
      by_cases tt : TurnP a b c d
      · have sp := Turn_pos tt
        have sz : sq4 a b c d ≠ 0 := by omega
        have qr00 := (nr00.quoI sp).w (by decide)
        have qr01 := (nr01.quoI sp).w (by decide)
        have qr02 := (nr02.quoI sp).w (by decide)
        have qr10 := (nr10.quoI sp).w (by decide)
        have qr11 := (nr11.quoI sp).w (by decide)
        have qr12 := (nr12.quoI sp).w (by decide)
        have qr20 := (nr20.quoI sp).w (by decide)
        have qr21 := (nr21.quoI sp).w (by decide)
        have qr22 := (nr22.quoI sp).w (by decide)
        simp (maxSteps := 10000000) [ha, hb, hc, hd, sval_limb i0, sval_limb i1, sval_limb i2, sval_limb i3, sval_limb i4, sval_limb i5, sval_limb i6, sval_limb i7, sval_limb i8, sval_limb i9, i10, sval_limb i10, i11, sval_limb i11, i12, sval_limb i12, i13, sval_limb i13, i14, sval_limb i14, i15, sval_limb i15, i16, sval_limb i16, i17, sval_limb i17, i18, sval_limb i18, i19, sval_limb i19, i20, sval_limb i20, i21, sval_limb i21, R8_limb, sval_limb sb, eqr00, vr00, sval_limb vr00, mr00, eqr01, vr01, sval_limb vr01, mr01, eqr02, vr02, sval_limb vr02, mr02, eqr10, vr10, sval_limb vr10, mr10, eqr11, vr11, sval_limb vr11, mr11, eqr12, vr12, sval_limb vr12, mr12, eqr20, vr20, sval_limb vr20, mr20, eqr21, vr21, sval_limb vr21, mr21, eqr22, vr22, sval_limb vr22, mr22, Tryz.f46, tt, sz, qr00, qr01, qr02, qr10, qr11, qr12, qr20, qr21, qr22]
      · simp [ha, hb, hc, hd, Tryz.f46, tt]
    · simp at h
  · simp at h
end Go.X
end
