/- Units and rows of rotations, rounded down: how near their squares are to 1. Plain: no program in sight. -/
import Derived.Test.YtgfpllfimpgooaaGreatJMV
namespace Go.X

theorem rat_bd {x s : Int} (hs : 0 < s) : (0 ≤ x → 0 ≤ ratI x s ∧ ratI x s * ratI x s * s ≤ x * x * 18446744073709551616 ∧ x * x * 18446744073709551616 < (ratI x s + 1) * (ratI x s + 1) * s) ∧
    (x < 0 → ratI x s ≤ -1 ∧ x * x * 18446744073709551616 ≤ ratI x s * ratI x s * s ∧ (ratI x s + 1) * (ratI x s + 1) * s < x * x * 18446744073709551616) := by
  have hn : 0 ≤ x * x * 18446744073709551616 := Int.mul_nonneg (sq_nonneg _) (by decide)
  have hpos : x < 0 → 0 < x * x * 18446744073709551616 := fun h => Int.mul_pos (Int.mul_pos_of_neg_of_neg h h) (by decide)
  unfold ratI
  generalize x * x * 18446744073709551616 = n at *
  obtain ⟨h1, -⟩ := quoI_spec n (show s ≠ 0 by omega)
  obtain ⟨h2, h3⟩ := remI_bd (a := n) hs
  obtain ⟨r0, r1, r2⟩ := rootI_is (quoI_nonneg hn hs)
  generalize remI n s = m at *
  generalize quoI n s = q at *
  generalize rootI q = r at *
  have hs' := Int.le_of_lt hs
  have up : (q + 1) * s ≤ (r + 1) * (r + 1) * s := Int.mul_le_mul_of_nonneg_right (by omega) hs'
  have lo : r * r * s ≤ q * s := Int.mul_le_mul_of_nonneg_right r1 hs'
  rw [Int.add_mul] at up
  refine ⟨fun hx => ?_, fun hx => ?_⟩
  · rw [if_neg (by omega)]
    exact ⟨r0, by omega, by omega⟩
  · rw [if_pos hx]
    have hn0 := hpos hx
    split
    · rename_i hc
      have e1 : -(r + 1) * -(r + 1) = (r + 1) * (r + 1) := Int.neg_mul_neg _ _
      have e2 : (-(r + 1) + 1) * (-(r + 1) + 1) = r * r := by grind
      rw [e1, e2]
      refine ⟨by omega, by omega, ?_⟩
      by_cases hq : r * r = q
      · have : m ≠ 0 := hc.resolve_right fun h => h hq
        omega
      · have := Int.mul_le_mul_of_nonneg_right (show r * r + 1 ≤ q by omega) hs'
        rw [Int.add_mul] at this
        omega
    · rename_i hc
      have hm : m = 0 := Classical.byContradiction fun h => hc (.inl h)
      have hq : r * r = q := Classical.byContradiction fun h => hc (.inr h)
      have e1 : -r * -r = r * r := Int.neg_mul_neg _ _
      have e2 : (-r + 1) * (-r + 1) = r * r - (2 * r - 1) := by grind
      have hr1 : 1 ≤ r := by
        rcases Int.lt_or_le r 1 with h | h
        · have : r = 0 := by omega
          subst this
          rw [← hq] at h1
          simp at h1
          omega
        · exact h
      have := Int.mul_pos (show 0 < 2 * r - 1 by omega) hs
      rw [e1, e2, Int.sub_mul, hq]
      refine ⟨by omega, by omega, by omega⟩

/-- a number by the root of a square not below its own: its size, and how near its square is -/
theorem rat_near {x s : Int} (hs : 0 < s) (hx : x * x ≤ s) : ∃ m : Int, 0 ≤ m ∧ m ≤ 4294967296 ∧ (ratI x s = m ∨ ratI x s = -m) ∧ (ratI x s < 0 ↔ x < 0) ∧
    ratI x s * ratI x s * s ≤ x * x * 18446744073709551616 + (2 * m + 1) * s ∧ x * x * 18446744073709551616 ≤ ratI x s * ratI x s * s + (2 * m + 1) * s := by
  obtain ⟨h1, h2⟩ := rat_bd (x := x) hs
  have hs' := Int.le_of_lt hs
  have hle : x * x * 18446744073709551616 ≤ s * 18446744073709551616 := Int.mul_le_mul_of_nonneg_right hx (by decide)
  have small : ∀ u : Int, 0 ≤ u → u * u * s ≤ s * 18446744073709551616 → u ≤ 4294967296 := by
    intro u hu h
    rcases Int.lt_or_le 4294967296 u with h' | h'
    · exfalso
      have h3 : (18446744073709551616 + 1) * s ≤ u * u * s := Int.mul_le_mul_of_nonneg_right (by have := Int.mul_le_mul (show (4294967297 : Int) ≤ u by omega) (show (4294967297 : Int) ≤ u by omega) (by decide) hu; omega) hs'
      rw [Int.add_mul] at h3
      omega
    · exact h'
  rcases Int.lt_or_le x 0 with h | h
  · obtain ⟨k1, k2, k3⟩ := h2 h
    generalize ratI x s = u at *
    have e : (u + 1) * (u + 1) = u * u - (2 * -u - 1) := by grind
    have h4 : -u - 1 < 4294967296 := by
      rcases Int.lt_or_le (-u - 1) 4294967296 with h' | h'
      · exact h'
      · exfalso
        have e2 : (u + 1) * (u + 1) = (-u - 1) * (-u - 1) := by grind
        rw [e2] at k3
        have h3 : 18446744073709551616 * s ≤ (-u - 1) * (-u - 1) * s := Int.mul_le_mul_of_nonneg_right (by have := Int.mul_le_mul h' h' (by decide) (by omega); omega) hs'
        omega
    refine ⟨-u, by omega, by omega, .inr (by omega), ⟨fun _ => h, fun _ => by omega⟩, ?_, ?_⟩
    · rw [e, Int.sub_mul] at k3
      have := Int.mul_le_mul_of_nonneg_right (show 2 * -u - 1 ≤ 2 * -u + 1 by omega) hs'
      omega
    · have := Int.mul_nonneg (show 0 ≤ 2 * -u + 1 by omega) hs'
      omega
  · obtain ⟨k1, k2, k3⟩ := h1 h
    generalize ratI x s = u at *
    have e : (u + 1) * (u + 1) = u * u + (2 * u + 1) := by grind
    have hu := small u k1 (by omega)
    have := Int.mul_nonneg (show 0 ≤ 2 * u + 1 by omega) hs'
    refine ⟨u, k1, hu, .inl rfl, ⟨fun h' => by omega, fun h' => by omega⟩, by omega, ?_⟩
    rw [e, Int.add_mul] at k3
    omega

theorem le_of_sq {m c k : Int} (h : m * m ≤ k) (hc : 0 ≤ c) (hk : k < (c + 1) * (c + 1)) : m ≤ c := by
  rcases Int.lt_or_le c m with h' | h'
  · exfalso
    have := Int.mul_le_mul (show c + 1 ≤ m by omega) (show c + 1 ≤ m by omega) (by omega) (by omega)
    omega
  · exact h'

/-- the numbers of a unit -/
theorem unit_near {a b c d : Int} (h : 0 < sq4 a b c d) : ∃ u v w z : Int, ratI a (sq4 a b c d) = u ∧ ratI b (sq4 a b c d) = v ∧ ratI c (sq4 a b c d) = w ∧ ratI d (sq4 a b c d) = z ∧
    (-4294967296 ≤ u ∧ u ≤ 4294967296) ∧ (-4294967296 ≤ v ∧ v ≤ 4294967296) ∧ (-4294967296 ≤ w ∧ w ≤ 4294967296) ∧ (-4294967296 ≤ z ∧ z ≤ 4294967296) ∧ (u < 0 ↔ a < 0) ∧ (v < 0 ↔ b < 0) ∧ (w < 0 ↔ c < 0) ∧ (z < 0 ↔ d < 0) ∧
    18446744073709551616 - 17179869252 ≤ sq4 u v w z ∧ sq4 u v w z ≤ 18446744073709551616 + 17179869252 := by
  have qa := sq_nonneg a
  have qb := sq_nonneg b
  have qc := sq_nonneg c
  have qd := sq_nonneg d
  obtain ⟨s, hs⟩ : ∃ s, sq4 a b c d = s := ⟨_, rfl⟩
  have es := hs
  unfold sq4 at es
  rw [hs] at h ⊢
  obtain ⟨m1, a1, a2, a3, a4, a5, a6⟩ := rat_near h (show a * a ≤ s by omega)
  obtain ⟨m2, b1, b2, b3, b4, b5, b6⟩ := rat_near h (show b * b ≤ s by omega)
  obtain ⟨m3, c1, c2, c3, c4, c5, c6⟩ := rat_near h (show c * c ≤ s by omega)
  obtain ⟨m4, d1, d2, d3, d4, d5, d6⟩ := rat_near h (show d * d ≤ s by omega)
  generalize ratI a s = u at *
  generalize ratI b s = v at *
  generalize ratI c s = w at *
  generalize ratI d s = z at *
  refine ⟨u, v, w, z, rfl, rfl, rfl, rfl, by omega, by omega, by omega, by omega, a4, b4, c4, d4, ?_⟩
  have sq : ∀ {u m : Int}, (u = m ∨ u = -m) → u * u = m * m := by
    rintro u m (rfl | rfl)
    · rfl
    · exact Int.neg_mul_neg _ _
  have tot : sq4 u v w z = m1 * m1 + m2 * m2 + m3 * m3 + m4 * m4 := by
    unfold sq4; rw [sq a3, sq b3, sq c3, sq d3]
  obtain ⟨S, hS⟩ : ∃ S, sq4 u v w z = S := ⟨_, rfl⟩
  have e1 : S * s = u * u * s + v * v * s + w * w * s + z * z * s := by rw [← hS]; unfold sq4; grind
  have e2 : a * a * 18446744073709551616 + b * b * 18446744073709551616 + c * c * 18446744073709551616 + d * d * 18446744073709551616 = 18446744073709551616 * s := by rw [← es]; grind
  have e3 : (2 * m1 + 1) * s + (2 * m2 + 1) * s + (2 * m3 + 1) * s + (2 * m4 + 1) * s = (2 * (m1 + m2 + m3 + m4) + 4) * s := by grind
  have up : S ≤ 18446744073709551616 + (2 * (m1 + m2 + m3 + m4) + 4) := by
    refine Int.le_of_mul_le_mul_right (a := s) ?_ h
    rw [Int.add_mul]; omega
  have lo : 18446744073709551616 ≤ S + (2 * (m1 + m2 + m3 + m4) + 4) := by
    refine Int.le_of_mul_le_mul_right (a := s) ?_ h
    rw [Int.add_mul]; omega
  have cs : (m1 + m2 + m3 + m4) * (m1 + m2 + m3 + m4) ≤ 4 * S := by
    have q1 := sq_nonneg (m1 - m2)
    have q2 := sq_nonneg (m1 - m3)
    have q3 := sq_nonneg (m1 - m4)
    have q4 := sq_nonneg (m2 - m3)
    have q5 := sq_nonneg (m2 - m4)
    have q6 := sq_nonneg (m3 - m4)
    rw [← hS, tot]
    grind
  have hM : m1 + m2 + m3 + m4 ≤ 8589934624 := le_of_sq cs (by decide) (by omega)
  rw [hS]
  omega

/-- a row of a rotation: numerators whose squares are the divisor's -/
theorem row_near {x y z s : Int} (hs : 0 < s) (h : x * x + y * y + z * z = s * s) : ∃ u v w : Int, quoI (x * 4294967296) s = u ∧ quoI (y * 4294967296) s = v ∧ quoI (z * 4294967296) s = w ∧
    (-4294967296 ≤ u ∧ u ≤ 4294967296) ∧ (-4294967296 ≤ v ∧ v ≤ 4294967296) ∧ (-4294967296 ≤ w ∧ w ≤ 4294967296) ∧
    18446744073709551616 - 17179869184 ≤ u * u + v * v + w * w ∧ u * u + v * v + w * w ≤ 18446744073709551616 + 17179869184 := by
  have qx := sq_nonneg x
  have qy := sq_nonneg y
  have qz := sq_nonneg z
  have hs' := Int.le_of_lt hs
  have one : ∀ {x : Int}, x * x ≤ s * s → ∃ u m : Int, quoI (x * 4294967296) s = u ∧ 0 ≤ m ∧ m ≤ 4294967296 ∧ (u = m ∨ u = -m) ∧
      u * u * (s * s) ≤ x * x * 18446744073709551616 + (2 * m + 1) * (s * s) ∧ x * x * 18446744073709551616 ≤ u * u * (s * s) + (2 * m + 1) * (s * s) := by
    intro x hx
    have hx1 : x ≤ s := by
      rcases Int.lt_or_le s x with h' | h'
      · have := Int.mul_le_mul (show s + 1 ≤ x by omega) (show s + 1 ≤ x by omega) (by omega) (by omega)
        have e : (s + 1) * (s + 1) = s * s + 2 * s + 1 := by grind
        omega
      · exact h'
    have hx2 : -s ≤ x := by
      rcases Int.lt_or_le x (-s) with h' | h'
      · have := Int.mul_le_mul (show s + 1 ≤ -x by omega) (show s + 1 ≤ -x by omega) (by omega) (by omega)
        have e : (s + 1) * (s + 1) = s * s + 2 * s + 1 := by grind
        have e' := Int.neg_mul_neg x x
        omega
      · exact h'
    obtain ⟨h1, h2⟩ := quoI_spec (x * 4294967296) (show s ≠ 0 by omega)
    obtain ⟨h2, h3⟩ := remI_bd (a := x * 4294967296) hs
    generalize quoI (x * 4294967296) s = u at *
    generalize remI (x * 4294967296) s = r at *
    have u1 : u ≤ 4294967296 := by
      rcases Int.lt_or_le 4294967296 u with h' | h'
      · have := Int.mul_le_mul_of_nonneg_right (show 4294967297 ≤ u by omega) hs'; omega
      · exact h'
    have u2 : -4294967296 ≤ u := by
      rcases Int.lt_or_le u (-4294967296) with h' | h'
      · have := Int.mul_le_mul_of_nonneg_right (show u ≤ -4294967297 by omega) hs'; omega
      · exact h'
    have e : x * x * 18446744073709551616 = u * u * (s * s) + 2 * u * (s * r) + r * r := by
      have : x * x * 18446744073709551616 = (x * 4294967296) * (x * 4294967296) := by grind
      rw [this, h1]; grind
    have sr0 : 0 ≤ s * r := Int.mul_nonneg hs' h2
    have sr1 : s * r ≤ s * s := Int.mul_le_mul_of_nonneg_left (by omega) hs'
    have rr0 : 0 ≤ r * r := Int.mul_nonneg h2 h2
    have rr1 : r * r ≤ s * s := Int.mul_le_mul (by omega) (by omega) h2 hs'
    rcases Int.lt_or_le u 0 with hu | hu
    · refine ⟨u, -u, rfl, by omega, by omega, .inr (by omega), ?_, ?_⟩
      · have := Int.mul_le_mul_of_nonneg_left sr1 (show 0 ≤ 2 * -u by omega)
        have e2 : 2 * u * (s * r) = -(2 * -u * (s * r)) := by grind
        rw [Int.add_mul]; omega
      · have := Int.mul_nonneg (show 0 ≤ 2 * -u by omega) sr0
        have := Int.mul_nonneg (show 0 ≤ 2 * -u by omega) (Int.mul_nonneg hs' hs')
        have e2 : 2 * u * (s * r) = -(2 * -u * (s * r)) := by grind
        rw [Int.add_mul]; omega
    · refine ⟨u, u, rfl, hu, by omega, .inl rfl, ?_, ?_⟩
      · have := Int.mul_nonneg (show 0 ≤ 2 * u by omega) sr0
        have := Int.mul_nonneg (show 0 ≤ 2 * u by omega) (Int.mul_nonneg hs' hs')
        have := Int.mul_nonneg hs' hs'
        rw [Int.add_mul]; omega
      · have := Int.mul_le_mul_of_nonneg_left sr1 (show 0 ≤ 2 * u by omega)
        rw [Int.add_mul]; omega
  obtain ⟨u, m1, a0, a1, a2, a3, a5, a6⟩ := one (x := x) (by omega)
  obtain ⟨v, m2, b0, b1, b2, b3, b5, b6⟩ := one (x := y) (by omega)
  obtain ⟨w, m3, c0, c1, c2, c3, c5, c6⟩ := one (x := z) (by omega)
  refine ⟨u, v, w, a0, b0, c0, by omega, by omega, by omega, ?_⟩
  have sq : ∀ {u m : Int}, (u = m ∨ u = -m) → u * u = m * m := by
    rintro u m (rfl | rfl)
    · rfl
    · exact Int.neg_mul_neg _ _
  obtain ⟨S, hS⟩ : ∃ S, u * u + v * v + w * w = S := ⟨_, rfl⟩
  have hss : 0 < s * s := Int.mul_pos hs hs
  have e1 : S * (s * s) = u * u * (s * s) + v * v * (s * s) + w * w * (s * s) := by rw [← hS]; grind
  have e2 : x * x * 18446744073709551616 + y * y * 18446744073709551616 + z * z * 18446744073709551616 = 18446744073709551616 * (s * s) := by rw [← h]; grind
  have e3 : (2 * m1 + 1) * (s * s) + (2 * m2 + 1) * (s * s) + (2 * m3 + 1) * (s * s) = (2 * (m1 + m2 + m3) + 3) * (s * s) := by grind
  have up : S ≤ 18446744073709551616 + (2 * (m1 + m2 + m3) + 3) := by
    refine Int.le_of_mul_le_mul_right (a := s * s) ?_ hss
    rw [Int.add_mul]; omega
  have lo : 18446744073709551616 ≤ S + (2 * (m1 + m2 + m3) + 3) := by
    refine Int.le_of_mul_le_mul_right (a := s * s) ?_ hss
    rw [Int.add_mul]; omega
  have cs : (m1 + m2 + m3) * (m1 + m2 + m3) ≤ 3 * S := by
    have q1 := sq_nonneg (m1 - m2)
    have q2 := sq_nonneg (m1 - m3)
    have q3 := sq_nonneg (m2 - m3)
    rw [← hS, sq a3, sq b3, sq c3]
    grind
  have hM : m1 + m2 + m3 ≤ 7439101612 := le_of_sq cs (by decide) (by omega)
  rw [hS]
  omega

end Go.X
