/- Package mat: rows, sums, products with vectors; minors and the determinant. -/
import Derived.Test.YtfhooccdhmkaoaaGreatGM
namespace Go.X
open Go.Proofs
attribute [local irreducible] Good
attribute [simp] Tryz.T_52
attribute [simp] Tryz.T_54
attribute [simp] Tryz.T_200
attribute [simp] Tryz.T_202

/-- the determinant -/
def detI (a1 a2 a3 b1 b2 b3 c1 c2 c3 : Int) : Int := a1 * (b2 * c3 - b3 * c2) + a2 * (b3 * c1 - b1 * c3) + a3 * (b1 * c2 - b2 * c1)
theorem Bd.minor {a b c d : Int} (ha : Bd 63 a) (hb : Bd 63 b) (hc : Bd 63 c) (hd : Bd 63 d) : Bd 127 (a * b - c * d) := (ha.mul hb).sub (hc.mul hd)
theorem Bd.det {a1 a2 a3 b1 b2 b3 c1 c2 c3 : Int} (h1 : Bd 63 a1) (h2 : Bd 63 a2) (h3 : Bd 63 a3) (g1 : Bd 63 b1) (g2 : Bd 63 b2) (g3 : Bd 63 b3) (k1 : Bd 63 c1) (k2 : Bd 63 c2) (k3 : Bd 63 c3) : Bd 192 (detI a1 a2 a3 b1 b2 b3 c1 c2 c3) :=
  ((h1.mul (g2.minor k3 g3 k2)).add (h2.mul (g3.minor k1 g1 k3))).add ((h3.mul (g1.minor k2 g2 k1)).mono (by decide))

noncomputable def mplusS : List AV → PR
  | [.arr .u64 8 f, .arr .u64 8 g] => open Classical in if R8 f ∧ R8 g ∧ InW (sval f + sval g) then .val (W (sval f + sval g)) else .fail
  | _ => .fail
@[simp] theorem mplusS_val {f g : Nat → Int} (h : R8 f ∧ R8 g ∧ InW (sval f + sval g)) : mplusS [.arr .u64 8 f, .arr .u64 8 g] = .val (W (sval f + sval g)) := if_pos h
theorem mplus_ok : SumOk Tryz.prog 217 (pureS mplusS) := by
  refine sum_fn (L := fun _ => none) (n := 1) (S := stOf [(144, pureS addS)]) drawS Tryz.T_ok (stOf_ok (by simp [add_ok])) Tryz.func217 rfl (by kernel_rfl) (by kernel_rfl) ?_
    (by intro args v h; unfold mplusS at h; split at h <;> (try split at h) <;> simp at h)
  intro args v h
  unfold mplusS at h
  split at h
  · rename_i f g
    split at h
    · rename_i hc
      obtain ⟨hf, hg, e0⟩ := hc
      cases h
      refine ⟨by simp, by simp, by simp, ?_⟩
      simp [Tryz.f217, hf, hg, e0, fitV]
    · simp at h
  · simp at h

noncomputable def mlessS : List AV → PR
  | [.arr .u64 8 f, .arr .u64 8 g] => open Classical in if R8 f ∧ R8 g ∧ InW (sval f - sval g) then .val (W (sval f - sval g)) else .fail
  | _ => .fail
@[simp] theorem mlessS_val {f g : Nat → Int} (h : R8 f ∧ R8 g ∧ InW (sval f - sval g)) : mlessS [.arr .u64 8 f, .arr .u64 8 g] = .val (W (sval f - sval g)) := if_pos h
noncomputable def mtimesS : List AV → PR
  | [.arr .u64 8 f, .arr .u64 8 g] => open Classical in if R8 f ∧ R8 g ∧ InW (sval f * sval g) then .val (W (sval f * sval g)) else .fail
  | _ => .fail
@[simp] theorem mtimesS_val {f g : Nat → Int} (h : R8 f ∧ R8 g ∧ InW (sval f * sval g)) : mtimesS [.arr .u64 8 f, .arr .u64 8 g] = .val (W (sval f * sval g)) := if_pos h
theorem mtimes_ok : SumOk Tryz.prog 218 (pureS mtimesS) := by
  refine sum_fn (L := fun _ => none) (n := 1) (S := stOf [(145, pureS mulS)]) drawS Tryz.T_ok (stOf_ok (by simp [mul_ok])) Tryz.func218 rfl (by kernel_rfl) (by kernel_rfl) ?_
    (by intro args v h; unfold mtimesS at h; split at h <;> (try split at h) <;> simp at h)
  intro args v h
  unfold mtimesS at h
  split at h
  · rename_i f g
    split at h
    · rename_i hc
      obtain ⟨hf, hg, e0⟩ := hc
      cases h
      refine ⟨by simp, by simp, by simp, ?_⟩
      simp [Tryz.f218, hf, hg, e0, fitV]
    · simp at h
  · simp at h

noncomputable def mrawS : List AV → PR
  | [.agg [.int .i64 a, .int .i64 b, .int .i64 c]] => open Classical in if InI a ∧ InI b ∧ InI c then .val (.agg [W a, W b, W c]) else .fail
  | _ => .fail
@[simp] theorem mrawS_val {a b c : Int} (h : InI a ∧ InI b ∧ InI c) : mrawS [.agg [.int .i64 a, .int .i64 b, .int .i64 c]] = .val (.agg [W a, W b, W c]) := if_pos h
theorem mraw_ok : SumOk Tryz.prog 215 (pureS mrawS) := by
  refine sum_fn (L := fun i => if i = 1 then some (.quiet 10) else none) (n := 1) (S := stOf [(120, pureS ofS)]) drawS Tryz.T_ok (stOf_ok (by simp [of_ok])) Tryz.func215 rfl (by kernel_rfl) (by kernel_rfl) ?_
    (by intro args v h; unfold mrawS at h; split at h <;> (try split at h) <;> simp at h)
  intro args v h
  unfold mrawS at h
  split at h
  · rename_i a b c
    split at h
    · rename_i hc
      obtain ⟨ha, hb, hc⟩ := hc
      cases h
      refine ⟨by simp, by simp, by simp, ?_⟩
      simp [Tryz.f215, ofS_in ha, ofS_in hb, ofS_in hc]
    · simp at h
  · simp at h

noncomputable def mrawsS : List AV → PR
  | [.agg [.int .i64 a1, .int .i64 a2, .int .i64 a3, .int .i64 b1, .int .i64 b2, .int .i64 b3, .int .i64 c1, .int .i64 c2, .int .i64 c3]] => open Classical in if InI a1 ∧ InI a2 ∧ InI a3 ∧ InI b1 ∧ InI b2 ∧ InI b3 ∧ InI c1 ∧ InI c2 ∧ InI c3 then .val (.agg [W a1, W a2, W a3, W b1, W b2, W b3, W c1, W c2, W c3]) else .fail
  | _ => .fail
@[simp] theorem mrawsS_val {a1 a2 a3 b1 b2 b3 c1 c2 c3 : Int} (h : InI a1 ∧ InI a2 ∧ InI a3 ∧ InI b1 ∧ InI b2 ∧ InI b3 ∧ InI c1 ∧ InI c2 ∧ InI c3) : mrawsS [.agg [.int .i64 a1, .int .i64 a2, .int .i64 a3, .int .i64 b1, .int .i64 b2, .int .i64 b3, .int .i64 c1, .int .i64 c2, .int .i64 c3]] = .val (.agg [W a1, W a2, W a3, W b1, W b2, W b3, W c1, W c2, W c3]) := if_pos h
theorem mraws_ok : SumOk Tryz.prog 214 (pureS mrawsS) := by
  refine sum_fn (L := fun i => if i = 1 then some (.quiet 13) else none) (n := 1) (S := stOf [(215, pureS mrawS)]) drawS Tryz.T_ok (stOf_ok (by simp [mraw_ok])) Tryz.func214 rfl (by kernel_rfl) (by kernel_rfl) ?_
    (by intro args v h; unfold mrawsS at h; split at h <;> (try split at h) <;> simp at h)
  intro args v h
  unfold mrawsS at h
  split at h
  · rename_i a1 a2 a3 b1 b2 b3 c1 c2 c3
    split at h
    · rename_i hc
      obtain ⟨ha1, ha2, ha3, hb1, hb2, hb3, hc1, hc2, hc3⟩ := hc
      cases h
      refine ⟨by simp, by simp, by simp, ?_⟩
      simp [Tryz.f214, ha1, ha2, ha3, hb1, hb2, hb3, hc1, hc2, hc3]
    · simp at h
  · simp at h

noncomputable def mdiagS : List AV → PR
  | [.agg [.int .i64 a, .int .i64 b, .int .i64 c]] => .val (.agg [.int .i64 a, .int .i64 0, .int .i64 0, .int .i64 0, .int .i64 b, .int .i64 0, .int .i64 0, .int .i64 0, .int .i64 c])
  | _ => .fail
@[simp] theorem mdiagS_val {a b c : Int} : mdiagS [.agg [.int .i64 a, .int .i64 b, .int .i64 c]] = .val (.agg [.int .i64 a, .int .i64 0, .int .i64 0, .int .i64 0, .int .i64 b, .int .i64 0, .int .i64 0, .int .i64 0, .int .i64 c]) := rfl
noncomputable def moneS : List AV → PR
  | [] => .val (.agg [.int .i64 4294967296, .int .i64 0, .int .i64 0, .int .i64 0, .int .i64 4294967296, .int .i64 0, .int .i64 0, .int .i64 0, .int .i64 4294967296])
  | _ => .fail
@[simp] theorem moneS_val : moneS [] = .val (.agg [.int .i64 4294967296, .int .i64 0, .int .i64 0, .int .i64 0, .int .i64 4294967296, .int .i64 0, .int .i64 0, .int .i64 0, .int .i64 4294967296]) := rfl
noncomputable def mturnedS : List AV → PR
  | [.agg [.int .i64 a1, .int .i64 a2, .int .i64 a3, .int .i64 b1, .int .i64 b2, .int .i64 b3, .int .i64 c1, .int .i64 c2, .int .i64 c3]] => .val (.agg [.int .i64 a1, .int .i64 b1, .int .i64 c1, .int .i64 a2, .int .i64 b2, .int .i64 c2, .int .i64 a3, .int .i64 b3, .int .i64 c3])
  | _ => .fail
@[simp] theorem mturnedS_val {a1 a2 a3 b1 b2 b3 c1 c2 c3 : Int} : mturnedS [.agg [.int .i64 a1, .int .i64 a2, .int .i64 a3, .int .i64 b1, .int .i64 b2, .int .i64 b3, .int .i64 c1, .int .i64 c2, .int .i64 c3]] = .val (.agg [.int .i64 a1, .int .i64 b1, .int .i64 c1, .int .i64 a2, .int .i64 b2, .int .i64 c2, .int .i64 a3, .int .i64 b3, .int .i64 c3]) := rfl
theorem mturned_ok : SumOk Tryz.prog 72 (pureS mturnedS) := by
  refine sum_fn (L := fun i => if i = 1 then some (.held 12 [3, 4, 5, 6, 7, 8]) else none) (n := 1) (S := stOf []) drawS Tryz.T_ok (stOf_ok (by simp)) Tryz.func72 rfl (by kernel_rfl) (by kernel_rfl) ?_
    (by intro args v h; unfold mturnedS at h; split at h <;> (try split at h) <;> simp at h)
  intro args v h
  unfold mturnedS at h
  split at h
  · rename_i a1 a2 a3 b1 b2 b3 c1 c2 c3
    cases h
    refine ⟨by simp, by simp, by simp, ?_⟩
    simp [Tryz.f72]
  · simp at h

noncomputable def mapplyS : List AV → PR
  | [.agg [.int .i64 a1, .int .i64 a2, .int .i64 a3, .int .i64 b1, .int .i64 b2, .int .i64 b3, .int .i64 c1, .int .i64 c2, .int .i64 c3], .agg [.int .i64 x, .int .i64 y, .int .i64 z]] => open Classical in if InI a1 ∧ InI a2 ∧ InI a3 ∧ InI b1 ∧ InI b2 ∧ InI b3 ∧ InI c1 ∧ InI c2 ∧ InI c3 ∧ InI x ∧ InI y ∧ InI z then .val (.agg [.int .i64 (clampI ((a1 * x + a2 * y + a3 * z) / 2 ^ 32)), .int .i64 (clampI ((b1 * x + b2 * y + b3 * z) / 2 ^ 32)), .int .i64 (clampI ((c1 * x + c2 * y + c3 * z) / 2 ^ 32))]) else .fail
  | _ => .fail
@[simp] theorem mapplyS_val {a1 a2 a3 b1 b2 b3 c1 c2 c3 x y z : Int} (h : InI a1 ∧ InI a2 ∧ InI a3 ∧ InI b1 ∧ InI b2 ∧ InI b3 ∧ InI c1 ∧ InI c2 ∧ InI c3 ∧ InI x ∧ InI y ∧ InI z) : mapplyS [.agg [.int .i64 a1, .int .i64 a2, .int .i64 a3, .int .i64 b1, .int .i64 b2, .int .i64 b3, .int .i64 c1, .int .i64 c2, .int .i64 c3], .agg [.int .i64 x, .int .i64 y, .int .i64 z]] = .val (.agg [.int .i64 (clampI ((a1 * x + a2 * y + a3 * z) / 2 ^ 32)), .int .i64 (clampI ((b1 * x + b2 * y + b3 * z) / 2 ^ 32)), .int .i64 (clampI ((c1 * x + c2 * y + c3 * z) / 2 ^ 32))]) := if_pos h
noncomputable def matS : Sum := fun args env _ => match args with
  | [.int .i64 i, .int .i64 k, .ptr p 0] => match env p with
    | some ⟨[.arr .u64 8 n0, .arr .u64 8 n1, .arr .u64 8 n2, .arr .u64 8 n3, .arr .u64 8 n4, .arr .u64 8 n5, .arr .u64 8 n6, .arr .u64 8 n7, .arr .u64 8 n8], _⟩ =>
      if 0 ≤ i ∧ i < 5 ∧ 0 ≤ k ∧ k < 5 then .val (([.arr .u64 8 n0, .arr .u64 8 n1, .arr .u64 8 n2, .arr .u64 8 n3, .arr .u64 8 n4, .arr .u64 8 n5, .arr .u64 8 n6, .arr .u64 8 n7, .arr .u64 8 n8] : List AV).getD ((i % 3 * 3 + k % 3).toNat) .undef) [] [] else .fail
    | _ => .fail
  | _ => .fail
theorem five {i : Int} (h0 : 0 ≤ i) (h : i < 5) : i = 0 ∨ i = 1 ∨ i = 2 ∨ i = 3 ∨ i = 4 := by omega
noncomputable def mminorsS : List AV → PR
  | [.agg [.arr .u64 8 n0, .arr .u64 8 n1, .arr .u64 8 n2, .arr .u64 8 n3, .arr .u64 8 n4, .arr .u64 8 n5, .arr .u64 8 n6, .arr .u64 8 n7, .arr .u64 8 n8]] => open Classical in if R8 n0 ∧ R8 n1 ∧ R8 n2 ∧ R8 n3 ∧ R8 n4 ∧ R8 n5 ∧ R8 n6 ∧ R8 n7 ∧ R8 n8 ∧ Bd 63 (sval n0) ∧ Bd 63 (sval n1) ∧ Bd 63 (sval n2) ∧ Bd 63 (sval n3) ∧ Bd 63 (sval n4) ∧ Bd 63 (sval n5) ∧ Bd 63 (sval n6) ∧ Bd 63 (sval n7) ∧ Bd 63 (sval n8) then .val (.agg [W (sval n4 * sval n8 - sval n5 * sval n7), W (sval n7 * sval n2 - sval n8 * sval n1), W (sval n1 * sval n5 - sval n2 * sval n4), W (sval n5 * sval n6 - sval n3 * sval n8), W (sval n8 * sval n0 - sval n6 * sval n2), W (sval n2 * sval n3 - sval n0 * sval n5), W (sval n3 * sval n7 - sval n4 * sval n6), W (sval n6 * sval n1 - sval n7 * sval n0), W (sval n0 * sval n4 - sval n1 * sval n3)]) else .fail
  | _ => .fail
@[simp] theorem mminorsS_val {n0 n1 n2 n3 n4 n5 n6 n7 n8 : Nat → Int} (h : R8 n0 ∧ R8 n1 ∧ R8 n2 ∧ R8 n3 ∧ R8 n4 ∧ R8 n5 ∧ R8 n6 ∧ R8 n7 ∧ R8 n8 ∧ Bd 63 (sval n0) ∧ Bd 63 (sval n1) ∧ Bd 63 (sval n2) ∧ Bd 63 (sval n3) ∧ Bd 63 (sval n4) ∧ Bd 63 (sval n5) ∧ Bd 63 (sval n6) ∧ Bd 63 (sval n7) ∧ Bd 63 (sval n8)) : mminorsS [.agg [.arr .u64 8 n0, .arr .u64 8 n1, .arr .u64 8 n2, .arr .u64 8 n3, .arr .u64 8 n4, .arr .u64 8 n5, .arr .u64 8 n6, .arr .u64 8 n7, .arr .u64 8 n8]] = .val (.agg [W (sval n4 * sval n8 - sval n5 * sval n7), W (sval n7 * sval n2 - sval n8 * sval n1), W (sval n1 * sval n5 - sval n2 * sval n4), W (sval n5 * sval n6 - sval n3 * sval n8), W (sval n8 * sval n0 - sval n6 * sval n2), W (sval n2 * sval n3 - sval n0 * sval n5), W (sval n3 * sval n7 - sval n4 * sval n6), W (sval n6 * sval n1 - sval n7 * sval n0), W (sval n0 * sval n4 - sval n1 * sval n3)]) := if_pos h
noncomputable def mdet0S : List AV → PR
  | [.agg [.arr .u64 8 n0, .arr .u64 8 n1, .arr .u64 8 n2, .arr .u64 8 _, .arr .u64 8 _, .arr .u64 8 _, .arr .u64 8 _, .arr .u64 8 _, .arr .u64 8 _], .agg [.arr .u64 8 k0, .arr .u64 8 _, .arr .u64 8 _, .arr .u64 8 k3, .arr .u64 8 _, .arr .u64 8 _, .arr .u64 8 k6, .arr .u64 8 _, .arr .u64 8 _]] => open Classical in if R8 n0 ∧ R8 n1 ∧ R8 n2 ∧ R8 k0 ∧ R8 k3 ∧ R8 k6 ∧ Bd 63 (sval n0) ∧ Bd 63 (sval n1) ∧ Bd 63 (sval n2) ∧ Bd 127 (sval k0) ∧ Bd 127 (sval k3) ∧ Bd 127 (sval k6) then .val (W (sval n0 * sval k0 + sval n1 * sval k3 + sval n2 * sval k6)) else .fail
  | _ => .fail
@[simp] theorem mdet0S_val {n0 n1 n2 n3 n4 n5 n6 n7 n8 k0 k1 k2 k3 k4 k5 k6 k7 k8 : Nat → Int} (h : R8 n0 ∧ R8 n1 ∧ R8 n2 ∧ R8 k0 ∧ R8 k3 ∧ R8 k6 ∧ Bd 63 (sval n0) ∧ Bd 63 (sval n1) ∧ Bd 63 (sval n2) ∧ Bd 127 (sval k0) ∧ Bd 127 (sval k3) ∧ Bd 127 (sval k6)) : mdet0S [.agg [.arr .u64 8 n0, .arr .u64 8 n1, .arr .u64 8 n2, .arr .u64 8 n3, .arr .u64 8 n4, .arr .u64 8 n5, .arr .u64 8 n6, .arr .u64 8 n7, .arr .u64 8 n8], .agg [.arr .u64 8 k0, .arr .u64 8 k1, .arr .u64 8 k2, .arr .u64 8 k3, .arr .u64 8 k4, .arr .u64 8 k5, .arr .u64 8 k6, .arr .u64 8 k7, .arr .u64 8 k8]] = .val (W (sval n0 * sval k0 + sval n1 * sval k3 + sval n2 * sval k6)) := if_pos h
noncomputable def mDetS : List AV → PR
  | [.agg [.int .i64 a1, .int .i64 a2, .int .i64 a3, .int .i64 b1, .int .i64 b2, .int .i64 b3, .int .i64 c1, .int .i64 c2, .int .i64 c3]] => open Classical in if InI a1 ∧ InI a2 ∧ InI a3 ∧ InI b1 ∧ InI b2 ∧ InI b3 ∧ InI c1 ∧ InI c2 ∧ InI c3 then .val (.int .i64 (clampI (detI a1 a2 a3 b1 b2 b3 c1 c2 c3 / 2 ^ 64))) else .fail
  | _ => .fail
@[simp] theorem mDetS_val {a1 a2 a3 b1 b2 b3 c1 c2 c3 : Int} (h : InI a1 ∧ InI a2 ∧ InI a3 ∧ InI b1 ∧ InI b2 ∧ InI b3 ∧ InI c1 ∧ InI c2 ∧ InI c3) : mDetS [.agg [.int .i64 a1, .int .i64 a2, .int .i64 a3, .int .i64 b1, .int .i64 b2, .int .i64 b3, .int .i64 c1, .int .i64 c2, .int .i64 c3]] = .val (.int .i64 (clampI (detI a1 a2 a3 b1 b2 b3 c1 c2 c3 / 2 ^ 64))) := if_pos h
noncomputable def moverS : List AV → PR
  | [.arr .u64 8 f, .arr .u64 8 g] => open Classical in if R8 f ∧ R8 g ∧ sval g ≠ 0 ∧ InW (quoI (sval f) (sval g)) then .val (.int .i64 (clampI (quoI (sval f) (sval g)))) else .fail
  | _ => .fail
@[simp] theorem moverS_val {f g : Nat → Int} (h : R8 f ∧ R8 g ∧ sval g ≠ 0 ∧ InW (quoI (sval f) (sval g))) : moverS [.arr .u64 8 f, .arr .u64 8 g] = .val (.int .i64 (clampI (quoI (sval f) (sval g)))) := if_pos h
end Go.X
