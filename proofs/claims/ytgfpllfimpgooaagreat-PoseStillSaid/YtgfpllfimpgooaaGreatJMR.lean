/- Package quat: whether one is a rotation; products. -/
import Derived.Test.YtgfpllfimpgooaaGreatJMQ
namespace Go.X
open Go.Proofs
attribute [local irreducible] Good
attribute [simp] Tryz.T_34

def sq4 (a b c d : Int) : Int := a * a + b * b + c * c + d * d
theorem Bd_sq4 {a b c d : Int} (ha : Bd 63 a) (hb : Bd 63 b) (hc : Bd 63 c) (hd : Bd 63 d) : Bd 129 (sq4 a b c d) :=
  (((ha.mul ha).add (hb.mul hb)).add ((hc.mul hc).mono (by decide))).add ((hd.mul hd).mono (by decide))
/-- is it a rotation? -/
def TurnP (a b c d : Int) : Prop := 4611686018427387904 ≤ sq4 a b c d ∧ sq4 a b c d ≤ 73786976294838206464
instance (a b c d : Int) : Decidable (TurnP a b c d) := inferInstanceAs (Decidable (_ ∧ _))
def qW (p0 p1 p2 p3 q0 q1 q2 q3 : Int) : Int := 1 * (p0 * q0) + -1 * (p1 * q1) + -1 * (p2 * q2) + -1 * (p3 * q3)
def qX (p0 p1 p2 p3 q0 q1 q2 q3 : Int) : Int := 1 * (p0 * q1) + 1 * (p1 * q0) + 1 * (p2 * q3) + -1 * (p3 * q2)
def qY (p0 p1 p2 p3 q0 q1 q2 q3 : Int) : Int := 1 * (p0 * q2) + 1 * (p2 * q0) + 1 * (p3 * q1) + -1 * (p1 * q3)
def qZ (p0 p1 p2 p3 q0 q1 q2 q3 : Int) : Int := 1 * (p0 * q3) + 1 * (p3 * q0) + 1 * (p1 * q2) + -1 * (p2 * q1)
theorem Bd_q4 {a b c d : Int} {s t u v : Int} (ha : Bd 126 a) (hb : Bd 126 b) (hc : Bd 126 c) (hd : Bd 126 d) (hs : s = 1 ∨ s = -1) (ht : t = 1 ∨ t = -1) (hu : u = 1 ∨ u = -1) (hv : v = 1 ∨ v = -1) : Bd 129 (s * a + t * b + u * c + v * d) := by
  have one : ∀ {z w : Int}, w = 1 ∨ w = -1 → Bd 126 z → Bd 126 (w * z) := by
    intro z w hw hz
    rcases hw with rfl | rfl
    · rwa [Int.one_mul]
    · rw [Int.neg_mul, Int.one_mul]; exact hz.neg
  exact (((one hs ha).add (one ht hb)).add ((one hu hc).mono (by decide))).add ((one hv hd).mono (by decide))
theorem Bd_q {p0 p1 p2 p3 q0 q1 q2 q3 : Int} (h0 : Bd 63 p0) (h1 : Bd 63 p1) (h2 : Bd 63 p2) (h3 : Bd 63 p3) (k0 : Bd 63 q0) (k1 : Bd 63 q1) (k2 : Bd 63 q2) (k3 : Bd 63 q3) :
    Bd 129 (qW p0 p1 p2 p3 q0 q1 q2 q3) ∧ Bd 129 (qX p0 p1 p2 p3 q0 q1 q2 q3) ∧ Bd 129 (qY p0 p1 p2 p3 q0 q1 q2 q3) ∧ Bd 129 (qZ p0 p1 p2 p3 q0 q1 q2 q3) :=
  ⟨Bd_q4 (h0.mul k0) (h1.mul k1) (h2.mul k2) (h3.mul k3) (by simp) (by simp) (by simp) (by simp), Bd_q4 (h0.mul k1) (h1.mul k0) (h2.mul k3) (h3.mul k2) (by simp) (by simp) (by simp) (by simp),
    Bd_q4 (h0.mul k2) (h2.mul k0) (h3.mul k1) (h1.mul k3) (by simp) (by simp) (by simp) (by simp), Bd_q4 (h0.mul k3) (h3.mul k0) (h1.mul k2) (h2.mul k1) (by simp) (by simp) (by simp) (by simp)⟩

noncomputable def qprodS : List AV → PR
  | [.agg [.arr .u64 8 p0, .arr .u64 8 p1, .arr .u64 8 p2, .arr .u64 8 p3], .agg [.arr .u64 8 q0, .arr .u64 8 q1, .arr .u64 8 q2, .arr .u64 8 q3]] => open Classical in if R8 p0 ∧ R8 p1 ∧ R8 p2 ∧ R8 p3 ∧ R8 q0 ∧ R8 q1 ∧ R8 q2 ∧ R8 q3 ∧ Bd 63 (sval p0) ∧ Bd 63 (sval p1) ∧ Bd 63 (sval p2) ∧ Bd 63 (sval p3) ∧ Bd 63 (sval q0) ∧ Bd 63 (sval q1) ∧ Bd 63 (sval q2) ∧ Bd 63 (sval q3) then .val (.agg [W (qW (sval p0) (sval p1) (sval p2) (sval p3) (sval q0) (sval q1) (sval q2) (sval q3)), W (qX (sval p0) (sval p1) (sval p2) (sval p3) (sval q0) (sval q1) (sval q2) (sval q3)), W (qY (sval p0) (sval p1) (sval p2) (sval p3) (sval q0) (sval q1) (sval q2) (sval q3)), W (qZ (sval p0) (sval p1) (sval p2) (sval p3) (sval q0) (sval q1) (sval q2) (sval q3))]) else .fail
  | _ => .fail
@[simp] theorem qprodS_val {p0 p1 p2 p3 q0 q1 q2 q3 : Nat → Int} (h : R8 p0 ∧ R8 p1 ∧ R8 p2 ∧ R8 p3 ∧ R8 q0 ∧ R8 q1 ∧ R8 q2 ∧ R8 q3 ∧ Bd 63 (sval p0) ∧ Bd 63 (sval p1) ∧ Bd 63 (sval p2) ∧ Bd 63 (sval p3) ∧ Bd 63 (sval q0) ∧ Bd 63 (sval q1) ∧ Bd 63 (sval q2) ∧ Bd 63 (sval q3)) : qprodS [.agg [.arr .u64 8 p0, .arr .u64 8 p1, .arr .u64 8 p2, .arr .u64 8 p3], .agg [.arr .u64 8 q0, .arr .u64 8 q1, .arr .u64 8 q2, .arr .u64 8 q3]] = .val (.agg [W (qW (sval p0) (sval p1) (sval p2) (sval p3) (sval q0) (sval q1) (sval q2) (sval q3)), W (qX (sval p0) (sval p1) (sval p2) (sval p3) (sval q0) (sval q1) (sval q2) (sval q3)), W (qY (sval p0) (sval p1) (sval p2) (sval p3) (sval q0) (sval q1) (sval q2) (sval q3)), W (qZ (sval p0) (sval p1) (sval p2) (sval p3) (sval q0) (sval q1) (sval q2) (sval q3))]) := if_pos h
set_option maxHeartbeats 40000000 in
theorem qprod_ok : SumOk Tryz.prog 171 (pureS qprodS) := by
  refine sum_fn (L := fun i => if i = 6 then some (.quiet 6) else none) (n := 5) (S := stOf [(201, qsumLS)]) drawS Tryz.T_ok (stOf_ok (by simp [qsumL_ok])) Tryz.func171 rfl (by kernel_rfl) (by kernel_rfl) ?_
    (by intro args v h; unfold qprodS at h; split at h <;> (try split at h) <;> simp at h)
  intro args v h
  unfold qprodS at h
  split at h
  · rename_i p0 p1 p2 p3 q0 q1 q2 q3
    split at h
    · rename_i hc
      obtain ⟨hp0, hp1, hp2, hp3, hq0, hq1, hq2, hq3, e0, e1, e2, e3, e4, e5, e6, e7⟩ := hc
      cases h
      refine ⟨by simp, by simp, by simp, ?_⟩
      simp (maxSteps := 10000000) [Tryz.f171, hp0, hp1, hp2, hp3, hq0, hq1, hq2, hq3, e0, e1, e2, e3, e4, e5, e6, e7, qsumLS, pick4, qW, qX, qY, qZ]
    · simp at h
  · simp at h

noncomputable def qsquareS : List AV → PR
  | [.agg [.arr .u64 8 p0, .arr .u64 8 p1, .arr .u64 8 p2, .arr .u64 8 p3]] => open Classical in if R8 p0 ∧ R8 p1 ∧ R8 p2 ∧ R8 p3 ∧ Bd 63 (sval p0) ∧ Bd 63 (sval p1) ∧ Bd 63 (sval p2) ∧ Bd 63 (sval p3) then .val (W (sq4 (sval p0) (sval p1) (sval p2) (sval p3))) else .fail
  | _ => .fail
@[simp] theorem qsquareS_val {p0 p1 p2 p3 : Nat → Int} (h : R8 p0 ∧ R8 p1 ∧ R8 p2 ∧ R8 p3 ∧ Bd 63 (sval p0) ∧ Bd 63 (sval p1) ∧ Bd 63 (sval p2) ∧ Bd 63 (sval p3)) : qsquareS [.agg [.arr .u64 8 p0, .arr .u64 8 p1, .arr .u64 8 p2, .arr .u64 8 p3]] = .val (W (sq4 (sval p0) (sval p1) (sval p2) (sval p3))) := if_pos h
set_option maxHeartbeats 4000000 in
theorem qsquare_ok : SumOk Tryz.prog 115 (pureS qsquareS) := by
  refine sum_fn (L := fun i => if i = 5 then some (.quiet 5) else none) (n := 6) (S := stOf [(173, pureS qplusS), (174, pureS qtimesS)]) drawS Tryz.T_ok (stOf_ok (by simp [qplus_ok, qtimes_ok])) Tryz.func115 rfl (by kernel_rfl) (by kernel_rfl) ?_
    (by intro args v h; unfold qsquareS at h; split at h <;> (try split at h) <;> simp at h)
  intro args v h
  unfold qsquareS at h
  split at h
  · rename_i p0 p1 p2 p3
    split at h
    · rename_i hc
      obtain ⟨hp0, hp1, hp2, hp3, e0, e1, e2, e3⟩ := hc
      cases h
      refine ⟨by simp, by simp, by simp, ?_⟩
      have i0 : InW (sval p0 * sval p0) := (e0.mul e0).w (by decide)
      have i1 : InW (sval p1 * sval p1) := (e1.mul e1).w (by decide)
      have i2 : InW (sval p2 * sval p2) := (e2.mul e2).w (by decide)
      have i3 : InW (sval p3 * sval p3) := (e3.mul e3).w (by decide)
      have i4 : InW (sval p0 * sval p0 + sval p1 * sval p1) := ((e0.mul e0).add (e1.mul e1)).w (by decide)
      have i5 : InW (sval p0 * sval p0 + sval p1 * sval p1 + sval p2 * sval p2) := (((e0.mul e0).add (e1.mul e1)).add ((e2.mul e2).mono (by decide : 126 ≤ 127))).w (by decide)
      have i6 : InW (sval p0 * sval p0 + sval p1 * sval p1 + sval p2 * sval p2 + sval p3 * sval p3) := ((((e0.mul e0).add (e1.mul e1)).add ((e2.mul e2).mono (by decide : 126 ≤ 127))).add ((e3.mul e3).mono (by decide : 126 ≤ 128))).w (by decide)
      simp (maxSteps := 10000000) [Tryz.f115, hp0, hp1, hp2, hp3, i0, sval_limb i0, i1, sval_limb i1, i2, sval_limb i2, i3, sval_limb i3, i4, sval_limb i4, i5, sval_limb i5, i6, R8_limb, R8_zero, sval_zero, sq4]
    · simp at h
  · simp at h

end Go.X
