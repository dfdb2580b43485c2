/- Package mat: rows, sums, products with vectors; minors and the determinant. -/
import Derived.Test.YtfhooccdhmkaoaaGM
namespace Go.X
open Go.Proofs
attribute [local irreducible] Good
attribute [simp] Try.T_25
attribute [simp] Try.T_27
attribute [simp] Try.T_92
attribute [simp] Try.T_94

/-- the determinant -/
def detI (a1 a2 a3 b1 b2 b3 c1 c2 c3 : Int) : Int := a1 * (b2 * c3 - b3 * c2) + a2 * (b3 * c1 - b1 * c3) + a3 * (b1 * c2 - b2 * c1)
theorem Bd.minor {a b c d : Int} (ha : Bd 63 a) (hb : Bd 63 b) (hc : Bd 63 c) (hd : Bd 63 d) : Bd 127 (a * b - c * d) := (ha.mul hb).sub (hc.mul hd)
theorem Bd.det {a1 a2 a3 b1 b2 b3 c1 c2 c3 : Int} (h1 : Bd 63 a1) (h2 : Bd 63 a2) (h3 : Bd 63 a3) (g1 : Bd 63 b1) (g2 : Bd 63 b2) (g3 : Bd 63 b3) (k1 : Bd 63 c1) (k2 : Bd 63 c2) (k3 : Bd 63 c3) : Bd 192 (detI a1 a2 a3 b1 b2 b3 c1 c2 c3) :=
  ((h1.mul (g2.minor k3 g3 k2)).add (h2.mul (g3.minor k1 g1 k3))).add ((h3.mul (g1.minor k2 g2 k1)).mono (by decide))

noncomputable def mplusS : List AV → PR
  | [.arr .u64 8 f, .arr .u64 8 g] => open Classical in if R8 f ∧ R8 g ∧ InW (sval f + sval g) then .val (W (sval f + sval g)) else .fail
  | _ => .fail
@[simp] theorem mplusS_val {f g : Nat → Int} (h : R8 f ∧ R8 g ∧ InW (sval f + sval g)) : mplusS [.arr .u64 8 f, .arr .u64 8 g] = .val (W (sval f + sval g)) := if_pos h
theorem mplus_ok : SumOk Try.prog 62 (pureS mplusS) := by
  refine sum_fn (L := fun _ => none) (n := 1) (S := stOf [(114, pureS addS)]) drawS Try.T_ok (stOf_ok (by simp [add_ok])) Try.func62 rfl (by kernel_rfl) (by kernel_rfl) ?_
    (by intro args v h; unfold mplusS at h; split at h <;> (try split at h) <;> simp at h)
  intro args v h
  unfold mplusS at h
  split at h
  · rename_i f g
    split at h
    · rename_i hc
      obtain ⟨hf, hg, e0⟩ := hc
      cases h
      refine ⟨by simp, by simp, by simp, ?_⟩
      simp [Try.f62, hf, hg, e0, fitV]
    · simp at h
  · simp at h

noncomputable def mlessS : List AV → PR
  | [.arr .u64 8 f, .arr .u64 8 g] => open Classical in if R8 f ∧ R8 g ∧ InW (sval f - sval g) then .val (W (sval f - sval g)) else .fail
  | _ => .fail
@[simp] theorem mlessS_val {f g : Nat → Int} (h : R8 f ∧ R8 g ∧ InW (sval f - sval g)) : mlessS [.arr .u64 8 f, .arr .u64 8 g] = .val (W (sval f - sval g)) := if_pos h
theorem mless_ok : SumOk Try.prog 163 (pureS mlessS) := by
  refine sum_fn (L := fun _ => none) (n := 1) (S := stOf [(150, pureS subS)]) drawS Try.T_ok (stOf_ok (by simp [sub_ok])) Try.func163 rfl (by kernel_rfl) (by kernel_rfl) ?_
    (by intro args v h; unfold mlessS at h; split at h <;> (try split at h) <;> simp at h)
  intro args v h
  unfold mlessS at h
  split at h
  · rename_i f g
    split at h
    · rename_i hc
      obtain ⟨hf, hg, e0⟩ := hc
      cases h
      refine ⟨by simp, by simp, by simp, ?_⟩
      simp [Try.f163, hf, hg, e0, fitV]
    · simp at h
  · simp at h

noncomputable def mtimesS : List AV → PR
  | [.arr .u64 8 f, .arr .u64 8 g] => open Classical in if R8 f ∧ R8 g ∧ InW (sval f * sval g) then .val (W (sval f * sval g)) else .fail
  | _ => .fail
@[simp] theorem mtimesS_val {f g : Nat → Int} (h : R8 f ∧ R8 g ∧ InW (sval f * sval g)) : mtimesS [.arr .u64 8 f, .arr .u64 8 g] = .val (W (sval f * sval g)) := if_pos h
theorem mtimes_ok : SumOk Try.prog 63 (pureS mtimesS) := by
  refine sum_fn (L := fun _ => none) (n := 1) (S := stOf [(115, pureS mulS)]) drawS Try.T_ok (stOf_ok (by simp [mul_ok])) Try.func63 rfl (by kernel_rfl) (by kernel_rfl) ?_
    (by intro args v h; unfold mtimesS at h; split at h <;> (try split at h) <;> simp at h)
  intro args v h
  unfold mtimesS at h
  split at h
  · rename_i f g
    split at h
    · rename_i hc
      obtain ⟨hf, hg, e0⟩ := hc
      cases h
      refine ⟨by simp, by simp, by simp, ?_⟩
      simp [Try.f63, hf, hg, e0, fitV]
    · simp at h
  · simp at h

noncomputable def mrawS : List AV → PR
  | [.agg [.int .i64 a, .int .i64 b, .int .i64 c]] => open Classical in if InI a ∧ InI b ∧ InI c then .val (.agg [W a, W b, W c]) else .fail
  | _ => .fail
@[simp] theorem mrawS_val {a b c : Int} (h : InI a ∧ InI b ∧ InI c) : mrawS [.agg [.int .i64 a, .int .i64 b, .int .i64 c]] = .val (.agg [W a, W b, W c]) := if_pos h
theorem mraw_ok : SumOk Try.prog 60 (pureS mrawS) := by
  refine sum_fn (L := fun i => if i = 1 then some (.quiet 10) else none) (n := 1) (S := stOf [(97, pureS ofS)]) drawS Try.T_ok (stOf_ok (by simp [of_ok])) Try.func60 rfl (by kernel_rfl) (by kernel_rfl) ?_
    (by intro args v h; unfold mrawS at h; split at h <;> (try split at h) <;> simp at h)
  intro args v h
  unfold mrawS at h
  split at h
  · rename_i a b c
    split at h
    · rename_i hc
      obtain ⟨ha, hb, hc⟩ := hc
      cases h
      refine ⟨by simp, by simp, by simp, ?_⟩
      simp [Try.f60, ofS_in ha, ofS_in hb, ofS_in hc]
    · simp at h
  · simp at h

noncomputable def mrawsS : List AV → PR
  | [.agg [.int .i64 a1, .int .i64 a2, .int .i64 a3, .int .i64 b1, .int .i64 b2, .int .i64 b3, .int .i64 c1, .int .i64 c2, .int .i64 c3]] => open Classical in if InI a1 ∧ InI a2 ∧ InI a3 ∧ InI b1 ∧ InI b2 ∧ InI b3 ∧ InI c1 ∧ InI c2 ∧ InI c3 then .val (.agg [W a1, W a2, W a3, W b1, W b2, W b3, W c1, W c2, W c3]) else .fail
  | _ => .fail
@[simp] theorem mrawsS_val {a1 a2 a3 b1 b2 b3 c1 c2 c3 : Int} (h : InI a1 ∧ InI a2 ∧ InI a3 ∧ InI b1 ∧ InI b2 ∧ InI b3 ∧ InI c1 ∧ InI c2 ∧ InI c3) : mrawsS [.agg [.int .i64 a1, .int .i64 a2, .int .i64 a3, .int .i64 b1, .int .i64 b2, .int .i64 b3, .int .i64 c1, .int .i64 c2, .int .i64 c3]] = .val (.agg [W a1, W a2, W a3, W b1, W b2, W b3, W c1, W c2, W c3]) := if_pos h
theorem mraws_ok : SumOk Try.prog 59 (pureS mrawsS) := by
  refine sum_fn (L := fun i => if i = 1 then some (.quiet 13) else none) (n := 1) (S := stOf [(60, pureS mrawS)]) drawS Try.T_ok (stOf_ok (by simp [mraw_ok])) Try.func59 rfl (by kernel_rfl) (by kernel_rfl) ?_
    (by intro args v h; unfold mrawsS at h; split at h <;> (try split at h) <;> simp at h)
  intro args v h
  unfold mrawsS at h
  split at h
  · rename_i a1 a2 a3 b1 b2 b3 c1 c2 c3
    split at h
    · rename_i hc
      obtain ⟨ha1, ha2, ha3, hb1, hb2, hb3, hc1, hc2, hc3⟩ := hc
      cases h
      refine ⟨by simp, by simp, by simp, ?_⟩
      simp [Try.f59, ha1, ha2, ha3, hb1, hb2, hb3, hc1, hc2, hc3]
    · simp at h
  · simp at h

noncomputable def mdiagS : List AV → PR
  | [.agg [.int .i64 a, .int .i64 b, .int .i64 c]] => .val (.agg [.int .i64 a, .int .i64 0, .int .i64 0, .int .i64 0, .int .i64 b, .int .i64 0, .int .i64 0, .int .i64 0, .int .i64 c])
  | _ => .fail
@[simp] theorem mdiagS_val {a b c : Int} : mdiagS [.agg [.int .i64 a, .int .i64 b, .int .i64 c]] = .val (.agg [.int .i64 a, .int .i64 0, .int .i64 0, .int .i64 0, .int .i64 b, .int .i64 0, .int .i64 0, .int .i64 0, .int .i64 c]) := rfl
theorem mdiag_ok : SumOk Try.prog 56 (pureS mdiagS) := by
  refine sum_fn (L := fun _ => none) (n := 1) (S := stOf []) drawS Try.T_ok (stOf_ok (by simp)) Try.func56 rfl (by kernel_rfl) (by kernel_rfl) ?_
    (by intro args v h; unfold mdiagS at h; split at h <;> (try split at h) <;> simp at h)
  intro args v h
  unfold mdiagS at h
  split at h
  · rename_i a b c
    cases h
    refine ⟨by simp, by simp, by simp, ?_⟩
    simp [Try.f56]
  · simp at h

noncomputable def moneS : List AV → PR
  | [] => .val (.agg [.int .i64 4294967296, .int .i64 0, .int .i64 0, .int .i64 0, .int .i64 4294967296, .int .i64 0, .int .i64 0, .int .i64 0, .int .i64 4294967296])
  | _ => .fail
@[simp] theorem moneS_val : moneS [] = .val (.agg [.int .i64 4294967296, .int .i64 0, .int .i64 0, .int .i64 0, .int .i64 4294967296, .int .i64 0, .int .i64 0, .int .i64 0, .int .i64 4294967296]) := rfl
theorem mone_ok : SumOk Try.prog 20 (pureS moneS) := by
  refine sum_fn (L := fun _ => none) (n := 1) (S := stOf [(56, pureS mdiagS)]) drawS Try.T_ok (stOf_ok (by simp [mdiag_ok])) Try.func20 rfl (by kernel_rfl) (by kernel_rfl) ?_
    (by intro args v h; unfold moneS at h; split at h <;> (try split at h) <;> simp at h)
  intro args v h
  unfold moneS at h
  split at h
  · skip
    cases h
    refine ⟨by simp, by simp, by simp, ?_⟩
    simp [Try.f20]
  · simp at h

noncomputable def mturnedS : List AV → PR
  | [.agg [.int .i64 a1, .int .i64 a2, .int .i64 a3, .int .i64 b1, .int .i64 b2, .int .i64 b3, .int .i64 c1, .int .i64 c2, .int .i64 c3]] => .val (.agg [.int .i64 a1, .int .i64 b1, .int .i64 c1, .int .i64 a2, .int .i64 b2, .int .i64 c2, .int .i64 a3, .int .i64 b3, .int .i64 c3])
  | _ => .fail
@[simp] theorem mturnedS_val {a1 a2 a3 b1 b2 b3 c1 c2 c3 : Int} : mturnedS [.agg [.int .i64 a1, .int .i64 a2, .int .i64 a3, .int .i64 b1, .int .i64 b2, .int .i64 b3, .int .i64 c1, .int .i64 c2, .int .i64 c3]] = .val (.agg [.int .i64 a1, .int .i64 b1, .int .i64 c1, .int .i64 a2, .int .i64 b2, .int .i64 c2, .int .i64 a3, .int .i64 b3, .int .i64 c3]) := rfl
theorem mturned_ok : SumOk Try.prog 21 (pureS mturnedS) := by
  refine sum_fn (L := fun i => if i = 1 then some (.held 12 [3, 4, 5, 6, 7, 8]) else none) (n := 1) (S := stOf []) drawS Try.T_ok (stOf_ok (by simp)) Try.func21 rfl (by kernel_rfl) (by kernel_rfl) ?_
    (by intro args v h; unfold mturnedS at h; split at h <;> (try split at h) <;> simp at h)
  intro args v h
  unfold mturnedS at h
  split at h
  · rename_i a1 a2 a3 b1 b2 b3 c1 c2 c3
    cases h
    refine ⟨by simp, by simp, by simp, ?_⟩
    simp [Try.f21]
  · simp at h

noncomputable def mapplyS : List AV → PR
  | [.agg [.int .i64 a1, .int .i64 a2, .int .i64 a3, .int .i64 b1, .int .i64 b2, .int .i64 b3, .int .i64 c1, .int .i64 c2, .int .i64 c3], .agg [.int .i64 x, .int .i64 y, .int .i64 z]] => open Classical in if InI a1 ∧ InI a2 ∧ InI a3 ∧ InI b1 ∧ InI b2 ∧ InI b3 ∧ InI c1 ∧ InI c2 ∧ InI c3 ∧ InI x ∧ InI y ∧ InI z then .val (.agg [.int .i64 (clampI ((a1 * x + a2 * y + a3 * z) / 2 ^ 32)), .int .i64 (clampI ((b1 * x + b2 * y + b3 * z) / 2 ^ 32)), .int .i64 (clampI ((c1 * x + c2 * y + c3 * z) / 2 ^ 32))]) else .fail
  | _ => .fail
@[simp] theorem mapplyS_val {a1 a2 a3 b1 b2 b3 c1 c2 c3 x y z : Int} (h : InI a1 ∧ InI a2 ∧ InI a3 ∧ InI b1 ∧ InI b2 ∧ InI b3 ∧ InI c1 ∧ InI c2 ∧ InI c3 ∧ InI x ∧ InI y ∧ InI z) : mapplyS [.agg [.int .i64 a1, .int .i64 a2, .int .i64 a3, .int .i64 b1, .int .i64 b2, .int .i64 b3, .int .i64 c1, .int .i64 c2, .int .i64 c3], .agg [.int .i64 x, .int .i64 y, .int .i64 z]] = .val (.agg [.int .i64 (clampI ((a1 * x + a2 * y + a3 * z) / 2 ^ 32)), .int .i64 (clampI ((b1 * x + b2 * y + b3 * z) / 2 ^ 32)), .int .i64 (clampI ((c1 * x + c2 * y + c3 * z) / 2 ^ 32))]) := if_pos h
set_option maxHeartbeats 4000000 in
theorem mapply_ok : SumOk Try.prog 15 (pureS mapplyS) := by
  refine sum_fn (L := fun i => if i = 1 then some (.quiet 16) else none) (n := 1) (S := stOf [(50, pureS vDotS)]) drawS Try.T_ok (stOf_ok (by simp [vDot_ok])) Try.func15 rfl (by kernel_rfl) (by kernel_rfl) ?_
    (by intro args v h; unfold mapplyS at h; split at h <;> (try split at h) <;> simp at h)
  intro args v h
  unfold mapplyS at h
  split at h
  · rename_i a1 a2 a3 b1 b2 b3 c1 c2 c3 x y z
    split at h
    · rename_i hc
      obtain ⟨ha1, ha2, ha3, hb1, hb2, hb3, hc1, hc2, hc3, hx, hy, hz⟩ := hc
      cases h
      refine ⟨by simp, by simp, by simp, ?_⟩
      simp [Try.f15, ha1, ha2, ha3, hb1, hb2, hb3, hc1, hc2, hc3, hx, hy, hz]
    · simp at h
  · simp at h

noncomputable def matS : Sum := fun args env _ => match args with
  | [.int .i64 i, .int .i64 k, .ptr p 0] => match env p with
    | some ⟨[.arr .u64 8 n0, .arr .u64 8 n1, .arr .u64 8 n2, .arr .u64 8 n3, .arr .u64 8 n4, .arr .u64 8 n5, .arr .u64 8 n6, .arr .u64 8 n7, .arr .u64 8 n8], _⟩ =>
      if 0 ≤ i ∧ i < 5 ∧ 0 ≤ k ∧ k < 5 then .val (([.arr .u64 8 n0, .arr .u64 8 n1, .arr .u64 8 n2, .arr .u64 8 n3, .arr .u64 8 n4, .arr .u64 8 n5, .arr .u64 8 n6, .arr .u64 8 n7, .arr .u64 8 n8] : List AV).getD ((i % 3 * 3 + k % 3).toNat) .undef) [] [] else .fail
    | _ => .fail
  | _ => .fail
theorem five {i : Int} (h0 : 0 ≤ i) (h : i < 5) : i = 0 ∨ i = 1 ∨ i = 2 ∨ i = 3 ∨ i = 4 := by omega
set_option maxHeartbeats 4000000 in
theorem mat_ok : SumOk Try.prog 162 matS := by
  refine sum_read (L := fun _ => none) (n := 1) (S := stOf []) drawS Try.T_ok (stOf_ok (by simp)) Try.func162 rfl (by kernel_rfl) (by kernel_rfl) ?_
  intro args env nxt h
  unfold matS at h ⊢
  split at h
  · rename_i i k p
    split at h
    · rename_i n0 n1 n2 n3 n4 n5 n6 n7 n8 ty e1
      split at h
      · rename_i hc
        obtain ⟨h1, h2, h3, h4⟩ := hc
        rcases five h1 h2 with rfl | rfl | rfl | rfl | rfl <;> rcases five h3 h4 with rfl | rfl | rfl | rfl | rfl <;>
        · refine ⟨_, _, _, _, laid1 [.int .i64 _, .int .i64 _, .ptr 0 0] rfl (by simp) e1 rfl, by simp; rfl, by simp, by simp, ?_⟩
          simp [Try.f162]
      · simp at h
    · simp at h
  · simp at h

noncomputable def mminorsS : List AV → PR
  | [.agg [.arr .u64 8 n0, .arr .u64 8 n1, .arr .u64 8 n2, .arr .u64 8 n3, .arr .u64 8 n4, .arr .u64 8 n5, .arr .u64 8 n6, .arr .u64 8 n7, .arr .u64 8 n8]] => open Classical in if R8 n0 ∧ R8 n1 ∧ R8 n2 ∧ R8 n3 ∧ R8 n4 ∧ R8 n5 ∧ R8 n6 ∧ R8 n7 ∧ R8 n8 ∧ Bd 63 (sval n0) ∧ Bd 63 (sval n1) ∧ Bd 63 (sval n2) ∧ Bd 63 (sval n3) ∧ Bd 63 (sval n4) ∧ Bd 63 (sval n5) ∧ Bd 63 (sval n6) ∧ Bd 63 (sval n7) ∧ Bd 63 (sval n8) then .val (.agg [W (sval n4 * sval n8 - sval n5 * sval n7), W (sval n7 * sval n2 - sval n8 * sval n1), W (sval n1 * sval n5 - sval n2 * sval n4), W (sval n5 * sval n6 - sval n3 * sval n8), W (sval n8 * sval n0 - sval n6 * sval n2), W (sval n2 * sval n3 - sval n0 * sval n5), W (sval n3 * sval n7 - sval n4 * sval n6), W (sval n6 * sval n1 - sval n7 * sval n0), W (sval n0 * sval n4 - sval n1 * sval n3)]) else .fail
  | _ => .fail
@[simp] theorem mminorsS_val {n0 n1 n2 n3 n4 n5 n6 n7 n8 : Nat → Int} (h : R8 n0 ∧ R8 n1 ∧ R8 n2 ∧ R8 n3 ∧ R8 n4 ∧ R8 n5 ∧ R8 n6 ∧ R8 n7 ∧ R8 n8 ∧ Bd 63 (sval n0) ∧ Bd 63 (sval n1) ∧ Bd 63 (sval n2) ∧ Bd 63 (sval n3) ∧ Bd 63 (sval n4) ∧ Bd 63 (sval n5) ∧ Bd 63 (sval n6) ∧ Bd 63 (sval n7) ∧ Bd 63 (sval n8)) : mminorsS [.agg [.arr .u64 8 n0, .arr .u64 8 n1, .arr .u64 8 n2, .arr .u64 8 n3, .arr .u64 8 n4, .arr .u64 8 n5, .arr .u64 8 n6, .arr .u64 8 n7, .arr .u64 8 n8]] = .val (.agg [W (sval n4 * sval n8 - sval n5 * sval n7), W (sval n7 * sval n2 - sval n8 * sval n1), W (sval n1 * sval n5 - sval n2 * sval n4), W (sval n5 * sval n6 - sval n3 * sval n8), W (sval n8 * sval n0 - sval n6 * sval n2), W (sval n2 * sval n3 - sval n0 * sval n5), W (sval n3 * sval n7 - sval n4 * sval n6), W (sval n6 * sval n1 - sval n7 * sval n0), W (sval n0 * sval n4 - sval n1 * sval n3)]) := if_pos h
set_option maxHeartbeats 40000000 in
theorem mminors_ok : SumOk Try.prog 109 (pureS mminorsS) := by
  refine sum_fn (L := fun i => if i = 9 then some (.quiet 31) else none) (n := 5) (S := stOf [(162, matS), (63, pureS mtimesS), (163, pureS mlessS)]) drawS Try.T_ok (stOf_ok (by simp [mat_ok, mtimes_ok, mless_ok])) Try.func109 rfl (by kernel_rfl) (by kernel_rfl) ?_
    (by intro args v h; unfold mminorsS at h; split at h <;> (try split at h) <;> simp at h)
  intro args v h
  unfold mminorsS at h
  split at h
  · rename_i n0 n1 n2 n3 n4 n5 n6 n7 n8
    split at h
    · rename_i hc
      obtain ⟨hn0, hn1, hn2, hn3, hn4, hn5, hn6, hn7, hn8, e0, e1, e2, e3, e4, e5, e6, e7, e8⟩ := hc
      cases h
      refine ⟨by simp, by simp, by simp, ?_⟩
      have i0 : InW (sval n0 * sval n4) := (e0.mul e4).w (by decide)
      have i1 : InW (sval n0 * sval n5) := (e0.mul e5).w (by decide)
      have i2 : InW (sval n1 * sval n3) := (e1.mul e3).w (by decide)
      have i3 : InW (sval n1 * sval n5) := (e1.mul e5).w (by decide)
      have i4 : InW (sval n2 * sval n3) := (e2.mul e3).w (by decide)
      have i5 : InW (sval n2 * sval n4) := (e2.mul e4).w (by decide)
      have i6 : InW (sval n3 * sval n7) := (e3.mul e7).w (by decide)
      have i7 : InW (sval n3 * sval n8) := (e3.mul e8).w (by decide)
      have i8 : InW (sval n4 * sval n6) := (e4.mul e6).w (by decide)
      have i9 : InW (sval n4 * sval n8) := (e4.mul e8).w (by decide)
      have i10 : InW (sval n5 * sval n6) := (e5.mul e6).w (by decide)
      have i11 : InW (sval n5 * sval n7) := (e5.mul e7).w (by decide)
      have i12 : InW (sval n6 * sval n1) := (e6.mul e1).w (by decide)
      have i13 : InW (sval n6 * sval n2) := (e6.mul e2).w (by decide)
      have i14 : InW (sval n7 * sval n0) := (e7.mul e0).w (by decide)
      have i15 : InW (sval n7 * sval n2) := (e7.mul e2).w (by decide)
      have i16 : InW (sval n8 * sval n0) := (e8.mul e0).w (by decide)
      have i17 : InW (sval n8 * sval n1) := (e8.mul e1).w (by decide)
      have i18 : InW (sval n4 * sval n8 - sval n5 * sval n7) := ((e4.mul e8).sub (e5.mul e7)).w (by decide)
      have i19 : InW (sval n7 * sval n2 - sval n8 * sval n1) := ((e7.mul e2).sub (e8.mul e1)).w (by decide)
      have i20 : InW (sval n1 * sval n5 - sval n2 * sval n4) := ((e1.mul e5).sub (e2.mul e4)).w (by decide)
      have i21 : InW (sval n5 * sval n6 - sval n3 * sval n8) := ((e5.mul e6).sub (e3.mul e8)).w (by decide)
      have i22 : InW (sval n8 * sval n0 - sval n6 * sval n2) := ((e8.mul e0).sub (e6.mul e2)).w (by decide)
      have i23 : InW (sval n2 * sval n3 - sval n0 * sval n5) := ((e2.mul e3).sub (e0.mul e5)).w (by decide)
      have i24 : InW (sval n3 * sval n7 - sval n4 * sval n6) := ((e3.mul e7).sub (e4.mul e6)).w (by decide)
      have i25 : InW (sval n6 * sval n1 - sval n7 * sval n0) := ((e6.mul e1).sub (e7.mul e0)).w (by decide)
      have i26 : InW (sval n0 * sval n4 - sval n1 * sval n3) := ((e0.mul e4).sub (e1.mul e3)).w (by decide)
      simp (maxSteps := 10000000) [Try.f109, hn0, hn1, hn2, hn3, hn4, hn5, hn6, hn7, hn8, i0, sval_limb i0, i1, sval_limb i1, i2, sval_limb i2, i3, sval_limb i3, i4, sval_limb i4, i5, sval_limb i5, i6, sval_limb i6, i7, sval_limb i7, i8, sval_limb i8, i9, sval_limb i9, i10, sval_limb i10, i11, sval_limb i11, i12, sval_limb i12, i13, sval_limb i13, i14, sval_limb i14, i15, sval_limb i15, i16, sval_limb i16, i17, sval_limb i17, i18, i19, i20, i21, i22, i23, i24, i25, i26, R8_limb, matS]
    · simp at h
  · simp at h

noncomputable def mdet0S : List AV → PR
  | [.agg [.arr .u64 8 n0, .arr .u64 8 n1, .arr .u64 8 n2, .arr .u64 8 _, .arr .u64 8 _, .arr .u64 8 _, .arr .u64 8 _, .arr .u64 8 _, .arr .u64 8 _], .agg [.arr .u64 8 k0, .arr .u64 8 _, .arr .u64 8 _, .arr .u64 8 k3, .arr .u64 8 _, .arr .u64 8 _, .arr .u64 8 k6, .arr .u64 8 _, .arr .u64 8 _]] => open Classical in if R8 n0 ∧ R8 n1 ∧ R8 n2 ∧ R8 k0 ∧ R8 k3 ∧ R8 k6 ∧ Bd 63 (sval n0) ∧ Bd 63 (sval n1) ∧ Bd 63 (sval n2) ∧ Bd 127 (sval k0) ∧ Bd 127 (sval k3) ∧ Bd 127 (sval k6) then .val (W (sval n0 * sval k0 + sval n1 * sval k3 + sval n2 * sval k6)) else .fail
  | _ => .fail
@[simp] theorem mdet0S_val {n0 n1 n2 n3 n4 n5 n6 n7 n8 k0 k1 k2 k3 k4 k5 k6 k7 k8 : Nat → Int} (h : R8 n0 ∧ R8 n1 ∧ R8 n2 ∧ R8 k0 ∧ R8 k3 ∧ R8 k6 ∧ Bd 63 (sval n0) ∧ Bd 63 (sval n1) ∧ Bd 63 (sval n2) ∧ Bd 127 (sval k0) ∧ Bd 127 (sval k3) ∧ Bd 127 (sval k6)) : mdet0S [.agg [.arr .u64 8 n0, .arr .u64 8 n1, .arr .u64 8 n2, .arr .u64 8 n3, .arr .u64 8 n4, .arr .u64 8 n5, .arr .u64 8 n6, .arr .u64 8 n7, .arr .u64 8 n8], .agg [.arr .u64 8 k0, .arr .u64 8 k1, .arr .u64 8 k2, .arr .u64 8 k3, .arr .u64 8 k4, .arr .u64 8 k5, .arr .u64 8 k6, .arr .u64 8 k7, .arr .u64 8 k8]] = .val (W (sval n0 * sval k0 + sval n1 * sval k3 + sval n2 * sval k6)) := if_pos h
set_option maxHeartbeats 4000000 in
theorem mdet0_ok : SumOk Try.prog 110 (pureS mdet0S) := by
  refine sum_fn (L := fun i => if i = 1 then some (.quiet 23) else none) (n := 1) (S := stOf [(62, pureS mplusS), (63, pureS mtimesS)]) drawS Try.T_ok (stOf_ok (by simp [mplus_ok, mtimes_ok])) Try.func110 rfl (by kernel_rfl) (by kernel_rfl) ?_
    (by intro args v h; unfold mdet0S at h; split at h <;> (try split at h) <;> simp at h)
  intro args v h
  unfold mdet0S at h
  split at h
  · rename_i n0 n1 n2 n3 n4 n5 n6 n7 n8 k0 k1 k2 k3 k4 k5 k6 k7 k8
    split at h
    · rename_i hc
      obtain ⟨hn0, hn1, hn2, hk0, hk3, hk6, e0, e1, e2, e3, e4, e5⟩ := hc
      cases h
      refine ⟨by simp, by simp, by simp, ?_⟩
      have i0 : InW (sval n0 * sval k0) := (e0.mul e3).w (by decide)
      have i1 : InW (sval n1 * sval k3) := (e1.mul e4).w (by decide)
      have i2 : InW (sval n2 * sval k6) := (e2.mul e5).w (by decide)
      have i3 : InW (sval n0 * sval k0 + sval n1 * sval k3) := ((e0.mul e3).add (e1.mul e4)).w (by decide)
      have i4 : InW (sval n0 * sval k0 + sval n1 * sval k3 + sval n2 * sval k6) := (((e0.mul e3).add (e1.mul e4)).add ((e2.mul e5).mono (by decide : 190 ≤ 191))).w (by decide)
      simp [Try.f110, hn0, hn1, hn2, hk0, hk3, hk6, i0, sval_limb i0, i1, sval_limb i1, i2, sval_limb i2, i3, sval_limb i3, i4, R8_limb]
    · simp at h
  · simp at h

noncomputable def mDetS : List AV → PR
  | [.agg [.int .i64 a1, .int .i64 a2, .int .i64 a3, .int .i64 b1, .int .i64 b2, .int .i64 b3, .int .i64 c1, .int .i64 c2, .int .i64 c3]] => open Classical in if InI a1 ∧ InI a2 ∧ InI a3 ∧ InI b1 ∧ InI b2 ∧ InI b3 ∧ InI c1 ∧ InI c2 ∧ InI c3 then .val (.int .i64 (clampI (detI a1 a2 a3 b1 b2 b3 c1 c2 c3 / 2 ^ 64))) else .fail
  | _ => .fail
@[simp] theorem mDetS_val {a1 a2 a3 b1 b2 b3 c1 c2 c3 : Int} (h : InI a1 ∧ InI a2 ∧ InI a3 ∧ InI b1 ∧ InI b2 ∧ InI b3 ∧ InI c1 ∧ InI c2 ∧ InI c3) : mDetS [.agg [.int .i64 a1, .int .i64 a2, .int .i64 a3, .int .i64 b1, .int .i64 b2, .int .i64 b3, .int .i64 c1, .int .i64 c2, .int .i64 c3]] = .val (.int .i64 (clampI (detI a1 a2 a3 b1 b2 b3 c1 c2 c3 / 2 ^ 64))) := if_pos h
set_option maxHeartbeats 4000000 in
theorem mDet_ok : SumOk Try.prog 57 (pureS mDetS) := by
  refine sum_fn (L := fun _ => none) (n := 1) (S := stOf [(64, pureS finS), (110, pureS mdet0S), (109, pureS mminorsS), (59, pureS mrawsS)]) drawS Try.T_ok (stOf_ok (by simp [fin_ok, mdet0_ok, mminors_ok, mraws_ok])) Try.func57 rfl (by kernel_rfl) (by kernel_rfl) ?_
    (by intro args v h; unfold mDetS at h; split at h <;> (try split at h) <;> simp at h)
  intro args v h
  unfold mDetS at h
  split at h
  · rename_i a1 a2 a3 b1 b2 b3 c1 c2 c3
    split at h
    · rename_i hc
      obtain ⟨ha1, ha2, ha3, hb1, hb2, hb3, hc1, hc2, hc3⟩ := hc
      cases h
      refine ⟨by simp, by simp, by simp, ?_⟩
      have j0 : Bd 127 (b2 * c3 - b3 * c2) := (((Bd.of hb2).mul (Bd.of hc3)).sub ((Bd.of hb3).mul (Bd.of hc2)))
      have j1 : Bd 127 (c2 * a3 - c3 * a2) := (((Bd.of hc2).mul (Bd.of ha3)).sub ((Bd.of hc3).mul (Bd.of ha2)))
      have j2 : Bd 127 (a2 * b3 - a3 * b2) := (((Bd.of ha2).mul (Bd.of hb3)).sub ((Bd.of ha3).mul (Bd.of hb2)))
      have j3 : Bd 127 (b3 * c1 - b1 * c3) := (((Bd.of hb3).mul (Bd.of hc1)).sub ((Bd.of hb1).mul (Bd.of hc3)))
      have j4 : Bd 127 (c3 * a1 - c1 * a3) := (((Bd.of hc3).mul (Bd.of ha1)).sub ((Bd.of hc1).mul (Bd.of ha3)))
      have j5 : Bd 127 (a3 * b1 - a1 * b3) := (((Bd.of ha3).mul (Bd.of hb1)).sub ((Bd.of ha1).mul (Bd.of hb3)))
      have j6 : Bd 127 (b1 * c2 - b2 * c1) := (((Bd.of hb1).mul (Bd.of hc2)).sub ((Bd.of hb2).mul (Bd.of hc1)))
      have j7 : Bd 127 (c1 * a2 - c2 * a1) := (((Bd.of hc1).mul (Bd.of ha2)).sub ((Bd.of hc2).mul (Bd.of ha1)))
      have j8 : Bd 127 (a1 * b2 - a2 * b1) := (((Bd.of ha1).mul (Bd.of hb2)).sub ((Bd.of ha2).mul (Bd.of hb1)))
      have i0 : InW (b2 * c3 - b3 * c2) := (((Bd.of hb2).mul (Bd.of hc3)).sub ((Bd.of hb3).mul (Bd.of hc2))).w (by decide)
      have i1 : InW (c2 * a3 - c3 * a2) := (((Bd.of hc2).mul (Bd.of ha3)).sub ((Bd.of hc3).mul (Bd.of ha2))).w (by decide)
      have i2 : InW (a2 * b3 - a3 * b2) := (((Bd.of ha2).mul (Bd.of hb3)).sub ((Bd.of ha3).mul (Bd.of hb2))).w (by decide)
      have i3 : InW (b3 * c1 - b1 * c3) := (((Bd.of hb3).mul (Bd.of hc1)).sub ((Bd.of hb1).mul (Bd.of hc3))).w (by decide)
      have i4 : InW (c3 * a1 - c1 * a3) := (((Bd.of hc3).mul (Bd.of ha1)).sub ((Bd.of hc1).mul (Bd.of ha3))).w (by decide)
      have i5 : InW (a3 * b1 - a1 * b3) := (((Bd.of ha3).mul (Bd.of hb1)).sub ((Bd.of ha1).mul (Bd.of hb3))).w (by decide)
      have i6 : InW (b1 * c2 - b2 * c1) := (((Bd.of hb1).mul (Bd.of hc2)).sub ((Bd.of hb2).mul (Bd.of hc1))).w (by decide)
      have i7 : InW (c1 * a2 - c2 * a1) := (((Bd.of hc1).mul (Bd.of ha2)).sub ((Bd.of hc2).mul (Bd.of ha1))).w (by decide)
      have i8 : InW (a1 * b2 - a2 * b1) := (((Bd.of ha1).mul (Bd.of hb2)).sub ((Bd.of ha2).mul (Bd.of hb1))).w (by decide)
      have i9 : InW (a1 * (b2 * c3 - b3 * c2) + a2 * (b3 * c1 - b1 * c3) + a3 * (b1 * c2 - b2 * c1)) := ((((Bd.of ha1).mul (((Bd.of hb2).mul (Bd.of hc3)).sub ((Bd.of hb3).mul (Bd.of hc2)))).add ((Bd.of ha2).mul (((Bd.of hb3).mul (Bd.of hc1)).sub ((Bd.of hb1).mul (Bd.of hc3))))).add (((Bd.of ha3).mul (((Bd.of hb1).mul (Bd.of hc2)).sub ((Bd.of hb2).mul (Bd.of hc1)))).mono (by decide : 190 ≤ 191))).w (by decide)
      simp (maxSteps := 10000000) [Try.f57, ha1, ha2, ha3, hb1, hb2, hb3, hc1, hc2, hc3, fitI ha1, fitI ha2, fitI ha3, fitI hb1, fitI hb2, fitI hb3, fitI hc1, fitI hc2, fitI hc3, j0, j3, j6, sval_limb i0, sval_limb i3, sval_limb i6, sval_limb i9, R8_limb, Bd.of ha1, Bd.of ha2, Bd.of ha3, Bd.of hb1, Bd.of hb2, Bd.of hb3, Bd.of hc1, Bd.of hc2, Bd.of hc3, detI]
    · simp at h
  · simp at h

noncomputable def moverS : List AV → PR
  | [.arr .u64 8 f, .arr .u64 8 g] => open Classical in if R8 f ∧ R8 g ∧ sval g ≠ 0 ∧ InW (quoI (sval f) (sval g)) then .val (.int .i64 (clampI (quoI (sval f) (sval g)))) else .fail
  | _ => .fail
@[simp] theorem moverS_val {f g : Nat → Int} (h : R8 f ∧ R8 g ∧ sval g ≠ 0 ∧ InW (quoI (sval f) (sval g))) : moverS [.arr .u64 8 f, .arr .u64 8 g] = .val (.int .i64 (clampI (quoI (sval f) (sval g)))) := if_pos h
theorem mover_ok : SumOk Try.prog 113 (pureS moverS) := by
  refine sum_fn (L := fun _ => none) (n := 1) (S := stOf [(64, pureS finS), (74, pureS divS)]) drawS Try.T_ok (stOf_ok (by simp [fin_ok, div_ok])) Try.func113 rfl (by kernel_rfl) (by kernel_rfl) ?_
    (by intro args v h; unfold moverS at h; split at h <;> (try split at h) <;> simp at h)
  intro args v h
  unfold moverS at h
  split at h
  · rename_i f g
    split at h
    · rename_i hc
      obtain ⟨hf, hg, e0, e1⟩ := hc
      cases h
      refine ⟨by simp, by simp, by simp, ?_⟩
      simp [Try.f113, hf, hg, e0, e1, R8_limb, quoV, sval_limb e1]
    · simp at h
  · simp at h

end Go.X
