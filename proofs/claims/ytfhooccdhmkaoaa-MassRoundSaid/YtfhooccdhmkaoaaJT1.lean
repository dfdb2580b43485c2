/- The product of two units: how near its matrix is to the product of theirs. Plain: no program in sight. -/
import Derived.Test.YtfhooccdhmkaoaaJML
namespace Go.X

theorem mulb {a b p q : Int} (ha : -p ≤ a ∧ a ≤ p) (hb : -q ≤ b ∧ b ≤ q) : -(p * q) ≤ a * b ∧ a * b ≤ p * q := by
  have h1 := Int.mul_nonneg (show 0 ≤ p - a by omega) (show 0 ≤ q - b by omega)
  have h2 := Int.mul_nonneg (show 0 ≤ p + a by omega) (show 0 ≤ q + b by omega)
  have h3 := Int.mul_nonneg (show 0 ≤ p - a by omega) (show 0 ≤ q + b by omega)
  have h4 := Int.mul_nonneg (show 0 ≤ p + a by omega) (show 0 ≤ q - b by omega)
  have e1 : (p - a) * (q - b) + (p + a) * (q + b) = 2 * (p * q) + 2 * (a * b) := by grind
  have e2 : (p - a) * (q + b) + (p + a) * (q - b) = 2 * (p * q) - 2 * (a * b) := by grind
  omega
theorem quoI_is {a b : Int} (hb : 0 < b) : quoI a b * b ≤ a ∧ a < quoI a b * b + b := by
  have e : quoI a b = a / b := by unfold quoI; rw [if_pos hb]
  rw [e]
  have h1 := Int.mul_ediv_add_emod a b
  have h2 := Int.emod_nonneg a (show b ≠ 0 by omega)
  have h3 := Int.emod_lt_of_pos a hb
  have h4 : b * (a / b) = a / b * b := Int.mul_comm _ _
  omega
/-- one product of two rounded fractions -/
theorem part_near {X Y A B x y : Int} (hA : 0 < A) (hB : 0 < B) (ex : quoI (X * 4294967296) A = x) (ey : quoI (Y * 4294967296) B = y) (hx : -4294967296 ≤ x ∧ x ≤ 4294967296) (hy : -4294967296 ≤ y ∧ y ≤ 4294967296) :
    -(8589934592 * (A * B)) ≤ X * Y * 18446744073709551616 - A * B * (x * y) ∧ X * Y * 18446744073709551616 - A * B * (x * y) ≤ 8589934593 * (A * B) := by
  obtain ⟨a1, a2⟩ := quoI_is (a := X * 4294967296) hA
  obtain ⟨b1, b2⟩ := quoI_is (a := Y * 4294967296) hB
  rw [ex] at a1 a2
  rw [ey] at b1 b2
  obtain ⟨r, hr⟩ : ∃ r, r = X * 4294967296 - x * A := ⟨_, rfl⟩
  obtain ⟨s, hs⟩ : ∃ s, s = Y * 4294967296 - y * B := ⟨_, rfl⟩
  have r0 : 0 ≤ r := by omega
  have r1 : r ≤ A := by omega
  have s0 : 0 ≤ s := by omega
  have s1 : s ≤ B := by omega
  have hX : X * 4294967296 = x * A + r := by omega
  have hY : Y * 4294967296 = y * B + s := by omega
  have e : X * Y * 18446744073709551616 = A * B * (x * y) + (x * (A * s) + y * (r * B) + r * s) := by
    have e1 : X * Y * 18446744073709551616 = (X * 4294967296) * (Y * 4294967296) := by grind
    rw [e1, hX, hY]
    grind
  have hAs : -(A * B) ≤ A * s ∧ A * s ≤ A * B := by
    have h1 := Int.mul_le_mul_of_nonneg_left s1 (Int.le_of_lt hA)
    have h2 := Int.mul_nonneg (Int.le_of_lt hA) s0
    have h3 := Int.mul_nonneg (Int.le_of_lt hA) (Int.le_of_lt hB)
    omega
  have hrB : -(A * B) ≤ r * B ∧ r * B ≤ A * B := by
    have h1 := Int.mul_le_mul_of_nonneg_right r1 (Int.le_of_lt hB)
    have h2 := Int.mul_nonneg r0 (Int.le_of_lt hB)
    have h3 := Int.mul_nonneg (Int.le_of_lt hA) (Int.le_of_lt hB)
    omega
  have h1 := mulb hx hAs
  have h2 := mulb hy hrB
  have h3 := Int.mul_nonneg r0 s0
  have h4 := Int.mul_le_mul r1 s1 s0 (Int.le_of_lt hA)
  omega
/-- the sum of three, brought in -/
theorem sum_near {S N Q m : Int} (hS : 0 < S) (h1 : -(25769803776 * S) ≤ N * 18446744073709551616 - S * Q) (h2 : N * 18446744073709551616 - S * Q ≤ 25769803779 * S) (hm : Q / 4294967296 = m) :
    S * m - 7 * S ≤ N * 4294967296 ∧ N * 4294967296 ≤ S * m + 8 * S := by
  have q1 : m * 4294967296 ≤ Q := by omega
  have q2 : Q ≤ m * 4294967296 + 4294967296 := by omega
  have k1 := Int.mul_le_mul_of_nonneg_left q1 (Int.le_of_lt hS)
  have k2 := Int.mul_le_mul_of_nonneg_left q2 (Int.le_of_lt hS)
  have e1 : S * (m * 4294967296) = S * m * 4294967296 := (Int.mul_assoc _ _ _).symm
  have e2 : S * (m * 4294967296 + 4294967296) = S * m * 4294967296 + S * 4294967296 := by rw [Int.mul_add, e1]
  rw [e1] at k1
  rw [e2] at k2
  omega
/-- a product of two numbers, and that of the two divided -/
theorem prod_near {C D c d : Int} (hC : C / 4294967296 = D) (hc : c / 4294967296 = d) (hD : -4294967304 ≤ D ∧ D ≤ 4294967304) (hd : -4294967304 ≤ d ∧ d ≤ 4294967304) :
    -158456325342123324440150278144 ≤ C * c - 18446744073709551616 * (D * d) ∧ C * c - 18446744073709551616 * (D * d) ≤ 158456325342123324440150278144 := by
  obtain ⟨e, he⟩ : ∃ e, e = C - 4294967296 * D := ⟨_, rfl⟩
  obtain ⟨f, hf⟩ : ∃ f, f = c - 4294967296 * d := ⟨_, rfl⟩
  have e0 : -4294967296 ≤ e ∧ e ≤ 4294967296 := by omega
  have f0 : -4294967296 ≤ f ∧ f ≤ 4294967296 := by omega
  have hC' : C = 4294967296 * D + e := by omega
  have hc' : c = 4294967296 * d + f := by omega
  have h1 := mulb hD f0
  have h2 := mulb hd e0
  have h3 := mulb e0 f0
  have h : C * c = 18446744073709551616 * (D * d) + 4294967296 * (D * f) + 4294967296 * (d * e) + e * f := by
    rw [hC', hc']; grind
  omega
/-- a fraction of two, and that of the two divided -/
theorem mat_near {S T N M z : Int} (hT : 0 < T) (n1 : -713053462628379038341895553024 ≤ N - 18446744073709551616 * M) (n2 : N - 18446744073709551616 * M ≤ 713053462628379038341895553024) (s1 : -713053462628379038341895553024 ≤ S - 18446744073709551616 * T) (s2 : S - 18446744073709551616 * T ≤ 713053462628379038341895553024)
    (hS : 340282366920938463463374607431768211456 ≤ 2 * S) (hz : quoI (M * 4294967296) T = z) (bz : -4294967296 ≤ z ∧ z ≤ 4294967296) : S * z - 36 * S ≤ N * 4294967296 ∧ N * 4294967296 ≤ S * z + 39 * S := by
  obtain ⟨a1, a2⟩ := quoI_is (a := M * 4294967296) hT
  rw [hz] at a1 a2
  have h1 := mulb bz ⟨s1, s2⟩
  have e : z * (S - 18446744073709551616 * T) = S * z - 18446744073709551616 * (z * T) := by grind
  rw [e] at h1
  omega
/-- two that are near to a third -/
theorem near_near {S N m z : Int} (hS : 0 < S) (h1 : S * m - 7 * S ≤ N * 4294967296 ∧ N * 4294967296 ≤ S * m + 8 * S) (h2 : S * z - 36 * S ≤ N * 4294967296 ∧ N * 4294967296 ≤ S * z + 39 * S) : m - z ≤ 64 ∧ z - m ≤ 64 := by
  constructor
  · rcases Int.lt_or_le 64 (m - z) with h | h
    · have k := Int.mul_le_mul_of_nonneg_left (show 65 ≤ m - z by omega) (Int.le_of_lt hS)
      rw [Int.mul_sub] at k
      omega
    · exact h
  · rcases Int.lt_or_le 64 (z - m) with h | h
    · have k := Int.mul_le_mul_of_nonneg_left (show 65 ≤ z - m by omega) (Int.le_of_lt hS)
      rw [Int.mul_sub] at k
      omega
    · exact h
/-- one number of the matrices -/
theorem both_near {X1 X2 X3 Y1 Y2 Y3 A B x1 x2 x3 y1 y2 y3 S T N M z m : Int} (hA : 0 < A) (hB : 0 < B) (hAB : S = A * B) (hN : N = X1 * Y1 + X2 * Y2 + X3 * Y3)
    (e1 : quoI (X1 * 4294967296) A = x1) (e2 : quoI (X2 * 4294967296) A = x2) (e3 : quoI (X3 * 4294967296) A = x3) (f1 : quoI (Y1 * 4294967296) B = y1) (f2 : quoI (Y2 * 4294967296) B = y2) (f3 : quoI (Y3 * 4294967296) B = y3)
    (p1 : -4294967296 ≤ x1 ∧ x1 ≤ 4294967296) (p2 : -4294967296 ≤ x2 ∧ x2 ≤ 4294967296) (p3 : -4294967296 ≤ x3 ∧ x3 ≤ 4294967296) (q1 : -4294967296 ≤ y1 ∧ y1 ≤ 4294967296) (q2 : -4294967296 ≤ y2 ∧ y2 ≤ 4294967296) (q3 : -4294967296 ≤ y3 ∧ y3 ≤ 4294967296)
    (hT : 0 < T) (n : -713053462628379038341895553024 ≤ N - 18446744073709551616 * M ∧ N - 18446744073709551616 * M ≤ 713053462628379038341895553024) (s : -713053462628379038341895553024 ≤ S - 18446744073709551616 * T ∧ S - 18446744073709551616 * T ≤ 713053462628379038341895553024)
    (hS : 340282366920938463463374607431768211456 ≤ 2 * S) (hz : quoI (M * 4294967296) T = z) (bz : -4294967296 ≤ z ∧ z ≤ 4294967296) (hm : (x1 * y1 + x2 * y2 + x3 * y3) / 4294967296 = m) : m - z ≤ 64 ∧ z - m ≤ 64 := by
  have k1 := part_near hA hB e1 f1 p1 q1
  have k2 := part_near hA hB e2 f2 p2 q2
  have k3 := part_near hA hB e3 f3 p3 q3
  rw [← hAB] at k1 k2 k3
  have hS0 : 0 < S := by omega
  have ed : S * (x1 * y1 + x2 * y2 + x3 * y3) = S * (x1 * y1) + S * (x2 * y2) + S * (x3 * y3) := by rw [Int.mul_add, Int.mul_add]
  refine near_near hS0 (sum_near hS0 ?_ ?_ hm) (mat_near hT n.1 n.2 s.1 s.2 hS hz bz)
  · rw [ed, hN]; omega
  · rw [ed, hN]; omega
/-- a quaternion that is divided -/
theorem quat_div {C0 C1 C2 C3 D0 D1 D2 D3 S : Int} (hS : sq4 C0 C1 C2 C3 = S) (l : 340282366287113161135650620174732628496 ≤ S) (h : S ≤ 340282367554763766381394409720433873424) (d0 : C0 / 4294967296 = D0) (d1 : C1 / 4294967296 = D1) (d2 : C2 / 4294967296 = D2) (d3 : C3 / 4294967296 = D3) :
    (-4294967304 ≤ D0 ∧ D0 ≤ 4294967304) ∧ (-4294967304 ≤ D1 ∧ D1 ≤ 4294967304) ∧ (-4294967304 ≤ D2 ∧ D2 ≤ 4294967304) ∧ (-4294967304 ≤ D3 ∧ D3 ≤ 4294967304) ∧ TurnP D0 D1 D2 D3 ∧ (-713053462628379038341895553024 ≤ S - 18446744073709551616 * sq4 D0 D1 D2 D3 ∧ S - 18446744073709551616 * sq4 D0 D1 D2 D3 ≤ 713053462628379038341895553024) ∧
    (-713053462628379038341895553024 ≤ r00 C0 C1 C2 C3 - 18446744073709551616 * r00 D0 D1 D2 D3 ∧ r00 C0 C1 C2 C3 - 18446744073709551616 * r00 D0 D1 D2 D3 ≤ 713053462628379038341895553024) ∧ (-713053462628379038341895553024 ≤ r01 C0 C1 C2 C3 - 18446744073709551616 * r01 D0 D1 D2 D3 ∧ r01 C0 C1 C2 C3 - 18446744073709551616 * r01 D0 D1 D2 D3 ≤ 713053462628379038341895553024) ∧ (-713053462628379038341895553024 ≤ r02 C0 C1 C2 C3 - 18446744073709551616 * r02 D0 D1 D2 D3 ∧ r02 C0 C1 C2 C3 - 18446744073709551616 * r02 D0 D1 D2 D3 ≤ 713053462628379038341895553024) ∧ (-713053462628379038341895553024 ≤ r10 C0 C1 C2 C3 - 18446744073709551616 * r10 D0 D1 D2 D3 ∧ r10 C0 C1 C2 C3 - 18446744073709551616 * r10 D0 D1 D2 D3 ≤ 713053462628379038341895553024) ∧ (-713053462628379038341895553024 ≤ r11 C0 C1 C2 C3 - 18446744073709551616 * r11 D0 D1 D2 D3 ∧ r11 C0 C1 C2 C3 - 18446744073709551616 * r11 D0 D1 D2 D3 ≤ 713053462628379038341895553024) ∧ (-713053462628379038341895553024 ≤ r12 C0 C1 C2 C3 - 18446744073709551616 * r12 D0 D1 D2 D3 ∧ r12 C0 C1 C2 C3 - 18446744073709551616 * r12 D0 D1 D2 D3 ≤ 713053462628379038341895553024) ∧ (-713053462628379038341895553024 ≤ r20 C0 C1 C2 C3 - 18446744073709551616 * r20 D0 D1 D2 D3 ∧ r20 C0 C1 C2 C3 - 18446744073709551616 * r20 D0 D1 D2 D3 ≤ 713053462628379038341895553024) ∧ (-713053462628379038341895553024 ≤ r21 C0 C1 C2 C3 - 18446744073709551616 * r21 D0 D1 D2 D3 ∧ r21 C0 C1 C2 C3 - 18446744073709551616 * r21 D0 D1 D2 D3 ≤ 713053462628379038341895553024) ∧ (-713053462628379038341895553024 ≤ r22 C0 C1 C2 C3 - 18446744073709551616 * r22 D0 D1 D2 D3 ∧ r22 C0 C1 C2 C3 - 18446744073709551616 * r22 D0 D1 D2 D3 ≤ 713053462628379038341895553024) := by
  have s0 := sq_nonneg C0
  have s1 := sq_nonneg C1
  have s2 := sq_nonneg C2
  have s3 := sq_nonneg C3
  have hs := hS
  unfold sq4 at hs
  have one : ∀ {c d : Int}, c / 4294967296 = d → c * c ≤ S → -4294967304 ≤ d ∧ d ≤ 4294967304 := by
    intro c d hd hc
    have h1 := le_of_sq hc (c := 18446744108069289984) (by decide) (by omega)
    have h2 := le_of_sq (show -c * -c ≤ S by rw [Int.neg_mul_neg]; exact hc) (c := 18446744108069289984) (by decide) (by omega)
    omega
  have b0 := one d0 (by omega)
  have b1 := one d1 (by omega)
  have b2 := one d2 (by omega)
  have b3 := one d3 (by omega)
  have p00 := prod_near d0 d0 b0 b0
  have p01 := prod_near d0 d1 b0 b1
  have p02 := prod_near d0 d2 b0 b2
  have p03 := prod_near d0 d3 b0 b3
  have p11 := prod_near d1 d1 b1 b1
  have p12 := prod_near d1 d2 b1 b2
  have p13 := prod_near d1 d3 b1 b3
  have p22 := prod_near d2 d2 b2 b2
  have p23 := prod_near d2 d3 b2 b3
  have p33 := prod_near d3 d3 b3 b3
  have tt : (-713053462628379038341895553024 ≤ S - 18446744073709551616 * sq4 D0 D1 D2 D3 ∧ S - 18446744073709551616 * sq4 D0 D1 D2 D3 ≤ 713053462628379038341895553024) := by unfold sq4; omega
  refine ⟨b0, b1, b2, b3, ?_, tt, ?_⟩
  · unfold TurnP; omega
  · refine ⟨?_, ?_, ?_, ?_, ?_, ?_, ?_, ?_, ?_⟩
    · unfold r00; omega
    · unfold r01; omega
    · unfold r02; omega
    · unfold r10; omega
    · unfold r11; omega
    · unfold r12; omega
    · unfold r20; omega
    · unfold r21; omega
    · unfold r22; omega
theorem sq4_mul (u0 u1 u2 u3 v0 v1 v2 v3 : Int) : sq4 (qW u0 u1 u2 u3 v0 v1 v2 v3) (qX u0 u1 u2 u3 v0 v1 v2 v3) (qY u0 u1 u2 u3 v0 v1 v2 v3) (qZ u0 u1 u2 u3 v0 v1 v2 v3) = sq4 u0 u1 u2 u3 * sq4 v0 v1 v2 v3 := by
  unfold sq4 qW qX qY qZ; grind
theorem r00_mul (u0 u1 u2 u3 v0 v1 v2 v3 : Int) : r00 (qW u0 u1 u2 u3 v0 v1 v2 v3) (qX u0 u1 u2 u3 v0 v1 v2 v3) (qY u0 u1 u2 u3 v0 v1 v2 v3) (qZ u0 u1 u2 u3 v0 v1 v2 v3) = r00 u0 u1 u2 u3 * r00 v0 v1 v2 v3 + r01 u0 u1 u2 u3 * r10 v0 v1 v2 v3 + r02 u0 u1 u2 u3 * r20 v0 v1 v2 v3 := by
  unfold r00 r01 r02 r10 r20 qW qX qY qZ; grind
theorem r01_mul (u0 u1 u2 u3 v0 v1 v2 v3 : Int) : r01 (qW u0 u1 u2 u3 v0 v1 v2 v3) (qX u0 u1 u2 u3 v0 v1 v2 v3) (qY u0 u1 u2 u3 v0 v1 v2 v3) (qZ u0 u1 u2 u3 v0 v1 v2 v3) = r00 u0 u1 u2 u3 * r01 v0 v1 v2 v3 + r01 u0 u1 u2 u3 * r11 v0 v1 v2 v3 + r02 u0 u1 u2 u3 * r21 v0 v1 v2 v3 := by
  unfold r01 r00 r02 r11 r21 qW qX qY qZ; grind
theorem r02_mul (u0 u1 u2 u3 v0 v1 v2 v3 : Int) : r02 (qW u0 u1 u2 u3 v0 v1 v2 v3) (qX u0 u1 u2 u3 v0 v1 v2 v3) (qY u0 u1 u2 u3 v0 v1 v2 v3) (qZ u0 u1 u2 u3 v0 v1 v2 v3) = r00 u0 u1 u2 u3 * r02 v0 v1 v2 v3 + r01 u0 u1 u2 u3 * r12 v0 v1 v2 v3 + r02 u0 u1 u2 u3 * r22 v0 v1 v2 v3 := by
  unfold r02 r00 r01 r12 r22 qW qX qY qZ; grind
theorem r10_mul (u0 u1 u2 u3 v0 v1 v2 v3 : Int) : r10 (qW u0 u1 u2 u3 v0 v1 v2 v3) (qX u0 u1 u2 u3 v0 v1 v2 v3) (qY u0 u1 u2 u3 v0 v1 v2 v3) (qZ u0 u1 u2 u3 v0 v1 v2 v3) = r10 u0 u1 u2 u3 * r00 v0 v1 v2 v3 + r11 u0 u1 u2 u3 * r10 v0 v1 v2 v3 + r12 u0 u1 u2 u3 * r20 v0 v1 v2 v3 := by
  unfold r10 r11 r12 r00 r20 qW qX qY qZ; grind
theorem r11_mul (u0 u1 u2 u3 v0 v1 v2 v3 : Int) : r11 (qW u0 u1 u2 u3 v0 v1 v2 v3) (qX u0 u1 u2 u3 v0 v1 v2 v3) (qY u0 u1 u2 u3 v0 v1 v2 v3) (qZ u0 u1 u2 u3 v0 v1 v2 v3) = r10 u0 u1 u2 u3 * r01 v0 v1 v2 v3 + r11 u0 u1 u2 u3 * r11 v0 v1 v2 v3 + r12 u0 u1 u2 u3 * r21 v0 v1 v2 v3 := by
  unfold r11 r10 r12 r01 r21 qW qX qY qZ; grind
theorem r12_mul (u0 u1 u2 u3 v0 v1 v2 v3 : Int) : r12 (qW u0 u1 u2 u3 v0 v1 v2 v3) (qX u0 u1 u2 u3 v0 v1 v2 v3) (qY u0 u1 u2 u3 v0 v1 v2 v3) (qZ u0 u1 u2 u3 v0 v1 v2 v3) = r10 u0 u1 u2 u3 * r02 v0 v1 v2 v3 + r11 u0 u1 u2 u3 * r12 v0 v1 v2 v3 + r12 u0 u1 u2 u3 * r22 v0 v1 v2 v3 := by
  unfold r12 r10 r11 r02 r22 qW qX qY qZ; grind
theorem r20_mul (u0 u1 u2 u3 v0 v1 v2 v3 : Int) : r20 (qW u0 u1 u2 u3 v0 v1 v2 v3) (qX u0 u1 u2 u3 v0 v1 v2 v3) (qY u0 u1 u2 u3 v0 v1 v2 v3) (qZ u0 u1 u2 u3 v0 v1 v2 v3) = r20 u0 u1 u2 u3 * r00 v0 v1 v2 v3 + r21 u0 u1 u2 u3 * r10 v0 v1 v2 v3 + r22 u0 u1 u2 u3 * r20 v0 v1 v2 v3 := by
  unfold r20 r21 r22 r00 r10 qW qX qY qZ; grind
theorem r21_mul (u0 u1 u2 u3 v0 v1 v2 v3 : Int) : r21 (qW u0 u1 u2 u3 v0 v1 v2 v3) (qX u0 u1 u2 u3 v0 v1 v2 v3) (qY u0 u1 u2 u3 v0 v1 v2 v3) (qZ u0 u1 u2 u3 v0 v1 v2 v3) = r20 u0 u1 u2 u3 * r01 v0 v1 v2 v3 + r21 u0 u1 u2 u3 * r11 v0 v1 v2 v3 + r22 u0 u1 u2 u3 * r21 v0 v1 v2 v3 := by
  unfold r21 r20 r22 r01 r11 qW qX qY qZ; grind
theorem r22_mul (u0 u1 u2 u3 v0 v1 v2 v3 : Int) : r22 (qW u0 u1 u2 u3 v0 v1 v2 v3) (qX u0 u1 u2 u3 v0 v1 v2 v3) (qY u0 u1 u2 u3 v0 v1 v2 v3) (qZ u0 u1 u2 u3 v0 v1 v2 v3) = r20 u0 u1 u2 u3 * r02 v0 v1 v2 v3 + r21 u0 u1 u2 u3 * r12 v0 v1 v2 v3 + r22 u0 u1 u2 u3 * r22 v0 v1 v2 v3 := by
  unfold r22 r20 r21 r02 r12 qW qX qY qZ; grind
theorem sq_range {A B : Int} (a : 18446744056529682364 ≤ A ∧ A ≤ 18446744090889420868) (b : 18446744056529682364 ≤ B ∧ B ≤ 18446744090889420868) : 340282366287113161135650620174732628496 ≤ A * B ∧ A * B ≤ 340282367554763766381394409720433873424 := by
  have h1 := Int.mul_le_mul a.1 b.1 (by omega) (by omega)
  have h2 := Int.mul_le_mul a.2 b.2 (by omega) (by omega)
  omega
end Go.X
