/- A point that is moved there and back again: how near it comes. Plain: no program in sight. -/
import Derived.Test.YtfhooccdhmkaoaaGreatJT1
namespace Go.X

theorem cs3 (x y z e f g : Int) : (x * e + y * f + z * g) * (x * e + y * f + z * g) ≤ (x * x + y * y + z * z) * (e * e + f * f + g * g) := by
  have h1 := sq_nonneg (x * f - y * e)
  have h2 := sq_nonneg (x * g - z * e)
  have h3 := sq_nonneg (y * g - z * f)
  have e1 : (x * x + y * y + z * z) * (e * e + f * f + g * g) = (x * e + y * f + z * g) * (x * e + y * f + z * g) + ((x * f - y * e) * (x * f - y * e) + (x * g - z * e) * (x * g - z * e) + (y * g - z * f) * (y * g - z * f)) := by grind
  omega
theorem col_small {x y z e f g s : Int} (h : x * x + y * y + z * z = s * s) (he : 0 ≤ e ∧ e ≤ s) (hf : 0 ≤ f ∧ f ≤ s) (hg : 0 ≤ g ∧ g ≤ s) :
    -(2 * (s * s)) ≤ x * e + y * f + z * g ∧ x * e + y * f + z * g ≤ 2 * (s * s) := by
  have hs : 0 ≤ s := by omega
  have h1 := Int.mul_le_mul he.2 he.2 he.1 hs
  have h2 := Int.mul_le_mul hf.2 hf.2 hf.1 hs
  have h3 := Int.mul_le_mul hg.2 hg.2 hg.1 hs
  have hw : 0 ≤ s * s := sq_nonneg s
  obtain ⟨w, hww⟩ : ∃ w, w = s * s := ⟨_, rfl⟩
  have h4 := cs3 x y z e f g
  rw [h, ← hww] at h4
  rw [← hww] at h1 h2 h3 hw ⊢
  have h5 := Int.mul_le_mul_of_nonneg_left (show e * e + f * f + g * g ≤ 3 * w by omega) hw
  have e1 : w * (3 * w) = 3 * (w * w) := by grind
  have e2 : (2 * w + 1) * (2 * w + 1) = 4 * (w * w) + 4 * w + 1 := by grind
  have hq : 0 ≤ w * w := sq_nonneg w
  have k1 := le_of_sq (m := x * e + y * f + z * g) (c := 2 * w) (k := 3 * (w * w)) (by omega) (by omega) (by omega)
  have k2 := le_of_sq (m := -(x * e + y * f + z * g)) (c := 2 * w) (k := 3 * (w * w)) (by rw [Int.neg_mul_neg]; omega) (by omega) (by omega)
  omega
/-- two columns of a rotation, rounded -/
theorem cross_near {x1 x2 x3 y1 y2 y3 s a1 a2 a3 b1 b2 b3 : Int} (hs : 0 < s) (hx : x1 * x1 + x2 * x2 + x3 * x3 = s * s) (hy : y1 * y1 + y2 * y2 + y3 * y3 = s * s) (h0 : x1 * y1 + x2 * y2 + x3 * y3 = 0)
    (e1 : quoI (x1 * 4294967296) s = a1) (e2 : quoI (x2 * 4294967296) s = a2) (e3 : quoI (x3 * 4294967296) s = a3) (f1 : quoI (y1 * 4294967296) s = b1) (f2 : quoI (y2 * 4294967296) s = b2) (f3 : quoI (y3 * 4294967296) s = b3) :
    -17179869187 ≤ a1 * b1 + a2 * b2 + a3 * b3 ∧ a1 * b1 + a2 * b2 + a3 * b3 ≤ 17179869187 := by
  obtain ⟨p1, q1⟩ := quoI_is (a := x1 * 4294967296) hs
  obtain ⟨p2, q2⟩ := quoI_is (a := x2 * 4294967296) hs
  obtain ⟨p3, q3⟩ := quoI_is (a := x3 * 4294967296) hs
  obtain ⟨p4, q4⟩ := quoI_is (a := y1 * 4294967296) hs
  obtain ⟨p5, q5⟩ := quoI_is (a := y2 * 4294967296) hs
  obtain ⟨p6, q6⟩ := quoI_is (a := y3 * 4294967296) hs
  rw [e1] at p1 q1
  rw [e2] at p2 q2
  rw [e3] at p3 q3
  rw [f1] at p4 q4
  rw [f2] at p5 q5
  rw [f3] at p6 q6
  obtain ⟨r1, hr1⟩ : ∃ r, r = x1 * 4294967296 - a1 * s := ⟨_, rfl⟩
  obtain ⟨r2, hr2⟩ : ∃ r, r = x2 * 4294967296 - a2 * s := ⟨_, rfl⟩
  obtain ⟨r3, hr3⟩ : ∃ r, r = x3 * 4294967296 - a3 * s := ⟨_, rfl⟩
  obtain ⟨t1, ht1⟩ : ∃ r, r = y1 * 4294967296 - b1 * s := ⟨_, rfl⟩
  obtain ⟨t2, ht2⟩ : ∃ r, r = y2 * 4294967296 - b2 * s := ⟨_, rfl⟩
  obtain ⟨t3, ht3⟩ : ∃ r, r = y3 * 4294967296 - b3 * s := ⟨_, rfl⟩
  have R1 : 0 ≤ r1 ∧ r1 ≤ s := by omega
  have R2 : 0 ≤ r2 ∧ r2 ≤ s := by omega
  have R3 : 0 ≤ r3 ∧ r3 ≤ s := by omega
  have T1 : 0 ≤ t1 ∧ t1 ≤ s := by omega
  have T2 : 0 ≤ t2 ∧ t2 ≤ s := by omega
  have T3 : 0 ≤ t3 ∧ t3 ≤ s := by omega
  have A1 : a1 * s = x1 * 4294967296 - r1 := by omega
  have A2 : a2 * s = x2 * 4294967296 - r2 := by omega
  have A3 : a3 * s = x3 * 4294967296 - r3 := by omega
  have B1 : b1 * s = y1 * 4294967296 - t1 := by omega
  have B2 : b2 * s = y2 * 4294967296 - t2 := by omega
  have B3 : b3 * s = y3 * 4294967296 - t3 := by omega
  have k1 := col_small hx T1 T2 T3
  have k2 := col_small hy R1 R2 R3
  have m1 := Int.mul_nonneg R1.1 T1.1
  have m2 := Int.mul_nonneg R2.1 T2.1
  have m3 := Int.mul_nonneg R3.1 T3.1
  have n1 := Int.mul_le_mul R1.2 T1.2 T1.1 (Int.le_of_lt hs)
  have n2 := Int.mul_le_mul R2.2 T2.2 T2.1 (Int.le_of_lt hs)
  have n3 := Int.mul_le_mul R3.2 T3.2 T3.1 (Int.le_of_lt hs)
  have e : (a1 * b1 + a2 * b2 + a3 * b3) * (s * s) = 18446744073709551616 * (x1 * y1 + x2 * y2 + x3 * y3) - 4294967296 * (x1 * t1 + x2 * t2 + x3 * t3) - 4294967296 * (y1 * r1 + y2 * r2 + y3 * r3) + (r1 * t1 + r2 * t2 + r3 * t3) := by
    have i1 : (a1 * b1 + a2 * b2 + a3 * b3) * (s * s) = (a1 * s) * (b1 * s) + (a2 * s) * (b2 * s) + (a3 * s) * (b3 * s) := by grind
    rw [i1, A1, A2, A3, B1, B2, B3]
    grind
  rw [h0] at e
  have hw : 0 < s * s := Int.mul_pos hs hs
  constructor
  · refine Int.le_of_mul_le_mul_right (a := s * s) ?_ hw
    rw [e]; omega
  · refine Int.le_of_mul_le_mul_right (a := s * s) ?_ hw
    rw [e]; omega
/-- there and back again: one number -/
theorem back_near {a1 a2 a3 b1 b2 b3 c1 c2 c3 v1 v2 v3 t1 t2 t3 w1 w2 w3 z : Int} (ha1 : -4294967296 ≤ a1 ∧ a1 ≤ 4294967296) (ha2 : -4294967296 ≤ a2 ∧ a2 ≤ 4294967296) (ha3 : -4294967296 ≤ a3 ∧ a3 ≤ 4294967296)
    (aa : 18446744073709551616 - 17179869184 ≤ a1 * a1 + a2 * a2 + a3 * a3 ∧ a1 * a1 + a2 * a2 + a3 * a3 ≤ 18446744073709551616 + 17179869184)
    (ab : -17179869187 ≤ a1 * b1 + a2 * b2 + a3 * b3 ∧ a1 * b1 + a2 * b2 + a3 * b3 ≤ 17179869187) (ac : -17179869187 ≤ a1 * c1 + a2 * c2 + a3 * c3 ∧ a1 * c1 + a2 * c2 + a3 * c3 ≤ 17179869187)
    (hv1 : -274877906944 ≤ v1 ∧ v1 ≤ 274877906944) (hv2 : -274877906944 ≤ v2 ∧ v2 ≤ 274877906944) (hv3 : -274877906944 ≤ v3 ∧ v3 ≤ 274877906944)
    (ht1 : t1 = a1 * v1 + b1 * v2 + c1 * v3) (ht2 : t2 = a2 * v1 + b2 * v2 + c2 * v3) (ht3 : t3 = a3 * v1 + b3 * v2 + c3 * v3)
    (hw1 : t1 / 4294967296 = w1) (hw2 : t2 / 4294967296 = w2) (hw3 : t3 / 4294967296 = w3) (hz : (a1 * w1 + a2 * w2 + a3 * w3) / 4294967296 = z) : z - v1 ≤ 1024 ∧ v1 - z ≤ 1024 := by
  obtain ⟨e1, he1⟩ : ∃ e, e = t1 - 4294967296 * w1 := ⟨_, rfl⟩
  obtain ⟨e2, he2⟩ : ∃ e, e = t2 - 4294967296 * w2 := ⟨_, rfl⟩
  obtain ⟨e3, he3⟩ : ∃ e, e = t3 - 4294967296 * w3 := ⟨_, rfl⟩
  have E1 : -4294967296 ≤ e1 ∧ e1 ≤ 4294967296 := by omega
  have E2 : -4294967296 ≤ e2 ∧ e2 ≤ 4294967296 := by omega
  have E3 : -4294967296 ≤ e3 ∧ e3 ≤ 4294967296 := by omega
  have W1 : 4294967296 * w1 = t1 - e1 := by omega
  have W2 : 4294967296 * w2 = t2 - e2 := by omega
  have W3 : 4294967296 * w3 = t3 - e3 := by omega
  have m1 := mulb ha1 E1
  have m2 := mulb ha2 E2
  have m3 := mulb ha3 E3
  have n1 := mulb (a := a1 * a1 + a2 * a2 + a3 * a3 - 18446744073709551616) (p := 17179869184) (by omega) hv1
  have n2 := mulb ab hv2
  have n3 := mulb ac hv3
  have e : 4294967296 * (a1 * w1 + a2 * w2 + a3 * w3) = 18446744073709551616 * v1 + (a1 * a1 + a2 * a2 + a3 * a3 - 18446744073709551616) * v1 + (a1 * b1 + a2 * b2 + a3 * b3) * v2 + (a1 * c1 + a2 * c2 + a3 * c3) * v3 - (a1 * e1 + a2 * e2 + a3 * e3) := by
    have i1 : 4294967296 * (a1 * w1 + a2 * w2 + a3 * w3) = a1 * (4294967296 * w1) + a2 * (4294967296 * w2) + a3 * (4294967296 * w3) := by grind
    rw [i1, W1, W2, W3, ht1, ht2, ht3]
    grind
  omega
/-- how far it goes -/
theorem out_range {a b c v1 v2 v3 : Int} (ha : -4294967296 ≤ a ∧ a ≤ 4294967296) (hb : -4294967296 ≤ b ∧ b ≤ 4294967296) (hc : -4294967296 ≤ c ∧ c ≤ 4294967296)
    (hv1 : -274877906944 ≤ v1 ∧ v1 ≤ 274877906944) (hv2 : -274877906944 ≤ v2 ∧ v2 ≤ 274877906944) (hv3 : -274877906944 ≤ v3 ∧ v3 ≤ 274877906944) :
    -824633720832 ≤ (a * v1 + b * v2 + c * v3) / 4294967296 ∧ (a * v1 + b * v2 + c * v3) / 4294967296 ≤ 824633720832 := by
  have h1 := mulb ha hv1
  have h2 := mulb hb hv2
  have h3 := mulb hc hv3
  omega
end Go.X
