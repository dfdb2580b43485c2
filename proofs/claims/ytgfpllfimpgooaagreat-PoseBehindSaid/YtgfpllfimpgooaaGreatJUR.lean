/- Points of a shape in a pose are no further off than they may be; a pose that is moved may be. -/
import Derived.Test.YtgfpllfimpgooaaGreatJUO
namespace Go.X
open Go.Proofs
/-- a row of a rotation, squared -/
def RowP (a b c : Int) : Prop := a * a + b * b + c * c ≤ 18446744090889420800
theorem Turn_rows {a b c d : Int} (tt : TurnP a b c d) :
    RowP (clampI (quoI (r00 a b c d * 4294967296) (sq4 a b c d))) (clampI (quoI (r01 a b c d * 4294967296) (sq4 a b c d))) (clampI (quoI (r02 a b c d * 4294967296) (sq4 a b c d))) ∧
    RowP (clampI (quoI (r10 a b c d * 4294967296) (sq4 a b c d))) (clampI (quoI (r11 a b c d * 4294967296) (sq4 a b c d))) (clampI (quoI (r12 a b c d * 4294967296) (sq4 a b c d))) ∧
    RowP (clampI (quoI (r20 a b c d * 4294967296) (sq4 a b c d))) (clampI (quoI (r21 a b c d * 4294967296) (sq4 a b c d))) (clampI (quoI (r22 a b c d * 4294967296) (sq4 a b c d))) := by
  have sp := Turn_pos tt
  have h0 : r00 a b c d * r00 a b c d + r01 a b c d * r01 a b c d + r02 a b c d * r02 a b c d = sq4 a b c d * sq4 a b c d := by unfold r00 r01 r02 sq4; grind
  have h1 : r10 a b c d * r10 a b c d + r11 a b c d * r11 a b c d + r12 a b c d * r12 a b c d = sq4 a b c d * sq4 a b c d := by unfold r10 r11 r12 sq4; grind
  have h2 : r20 a b c d * r20 a b c d + r21 a b c d * r21 a b c d + r22 a b c d * r22 a b c d = sq4 a b c d * sq4 a b c d := by unfold r20 r21 r22 sq4; grind
  have one : ∀ {u : Int}, -4294967296 ≤ u ∧ u ≤ 4294967296 → clampI u = u := fun {u} h => clampI_self (by unfold InI; omega)
  obtain ⟨u0, v0, w0, x0, y0, z0, p0, q0, s0, -, k0⟩ := row_near sp h0
  obtain ⟨u1, v1, w1, x1, y1, z1, p1, q1, s1, -, k1⟩ := row_near sp h1
  obtain ⟨u2, v2, w2, x2, y2, z2, p2, q2, s2, -, k2⟩ := row_near sp h2
  rw [x0, y0, z0, x1, y1, z1, x2, y2, z2, one p0, one q0, one s0, one p1, one q1, one s1, one p2, one q2, one s2]
  unfold RowP
  exact ⟨k0, k1, k2⟩
/-- a number of a point that may be -/
def Far1 (a : Int) : Prop := -75497472 ≤ a ∧ a ≤ 75497472
theorem sm_sq {x : Int} (h : SmN x) : x * x ≤ 75557863725914323419136 := by
  have := mulb h h
  omega
theorem ou_far {p a b c x y z : Int} (hp : PlN p) (hr : RowP a b c) (hx : SmN x) (hy : SmN y) (hz : SmN z) : Far1 (nearI (ouI p a b c x y z)) := by
  have h1 := cs3 a b c x y z
  have k1 := sm_sq hx
  have k2 := sm_sq hy
  have k3 := sm_sq hz
  have k0 : 0 ≤ a * a + b * b + c * c := by
    have := sq_nonneg a; have := sq_nonneg b; have := sq_nonneg c; omega
  unfold RowP at hr
  have h2 := Int.mul_le_mul hr (show x * x + y * y + z * z ≤ 226673591177742970257408 by omega) (by have := sq_nonneg x; have := sq_nonneg y; have := sq_nonneg z; omega) (by decide)
  have h3 := le_of_sq (m := a * x + b * y + c * z) (c := 2361183241434822606848) (Int.le_trans h1 h2) (by decide) (by decide)
  have h4 := le_of_sq (m := -(a * x + b * y + c * z)) (c := 2361183241434822606848) (by rw [Int.neg_mul_neg]; exact Int.le_trans h1 h2) (by decide) (by decide)
  unfold PlN at hp
  unfold ouI
  rw [clampI_self (by unfold InI; omega)]
  unfold Far1 nearI
  omega
theorem pt_far {p1 p2 p3 a00 a01 a02 a10 a11 a12 a20 a21 a22 : Int} {F : Nat → Int} {n : Nat} (hp1 : PlN p1) (hp2 : PlN p2) (hp3 : PlN p3) (r0 : RowP a00 a01 a02) (r1 : RowP a10 a11 a12) (r2 : RowP a20 a21 a22) (hF : ∀ j, j < n * 3 → SmN (F j)) (j : Nat) (hj : j < n * 3) :
    Far1 (ptO p1 p2 p3 a00 a01 a02 a10 a11 a12 a20 a21 a22 F j) := by
  have f0 := hF (j / 3 * 3) (by omega)
  have f1 := hF (j / 3 * 3 + 1) (by omega)
  have f2 := hF (j / 3 * 3 + 2) (by omega)
  unfold ptO
  split
  · exact ou_far hp1 r0 f0 f1 f2
  · split
    · exact ou_far hp2 r1 f0 f1 f2
    · exact ou_far hp3 r2 f0 f1 f2
/-- what is told of a move: nothing is moved, or the pose that comes out may be -/
theorem pMove_two {p1 p2 p3 q0 q1 q2 q3 x y z u v w t : Int} (h : InI p1 ∧ InI p2 ∧ InI p3 ∧ InI q0 ∧ InI q1 ∧ InI q2 ∧ InI q3 ∧ InI x ∧ InI y ∧ InI z ∧ InI u ∧ InI v ∧ InI w ∧ InI t) :
    (∃ c : Int, c ≠ 0 ∧ pMoveS [.agg [.int .i64 p1, .int .i64 p2, .int .i64 p3, .int .i64 q0, .int .i64 q1, .int .i64 q2, .int .i64 q3], .agg [.int .i64 x, .int .i64 y, .int .i64 z], .agg [.int .i64 u, .int .i64 v, .int .i64 w], .int .i64 t] = .val (.tup [.agg [.int .i64 0, .int .i64 0, .int .i64 0, .int .i64 0, .int .i64 0, .int .i64 0, .int .i64 0], .bool false, .int .i64 c])) ∨
    ∃ (P1 P2 P3 Q0 Q1 Q2 Q3 : Int) (cl : Bool), (InI P1 ∧ InI P2 ∧ InI P3 ∧ InI Q0 ∧ InI Q1 ∧ InI Q2 ∧ InI Q3) ∧ Place P1 P2 P3 ∧ TurnP Q0 Q1 Q2 Q3 ∧ pMoveS [.agg [.int .i64 p1, .int .i64 p2, .int .i64 p3, .int .i64 q0, .int .i64 q1, .int .i64 q2, .int .i64 q3], .agg [.int .i64 x, .int .i64 y, .int .i64 z], .agg [.int .i64 u, .int .i64 v, .int .i64 w], .int .i64 t] = .val (.tup [.agg [.int .i64 P1, .int .i64 P2, .int .i64 P3, .int .i64 Q0, .int .i64 Q1, .int .i64 Q2, .int .i64 Q3], .bool cl, .int .i64 0]) := by
  rw [pMoveS_val h]
  by_cases pt : Place p1 p2 p3 ∧ TurnP q0 q1 q2 q3
  · right
    rw [if_pos pt]
    have b1 := @plI_in (mvI p1 x t)
    have b2 := @plI_in (mvI p2 y t)
    have b3 := @plI_in (mvI p3 z t)
    have pin : ∀ {a : Int}, -4398046511104 ≤ a ∧ a ≤ 4398046511104 → InI a := fun {a} k => by unfold InI; omega
    by_cases tt : TurnP (sp0 q0 q1 q2 q3 u v w t) (sp1 q0 q1 q2 q3 u v w t) (sp2 q0 q1 q2 q3 u v w t) (sp3 q0 q1 q2 q3 u v w t)
    · rw [if_pos tt]
      obtain ⟨a, b, c, d, ea, eb, ec, ed, ra, rb, rc, rd, -, -, -, -, n1, n2⟩ := unit_near (Turn_pos tt)
      have one : ∀ {u : Int}, -4294967296 ≤ u ∧ u ≤ 4294967296 → clampI u = u := fun {u} h => clampI_self (by unfold InI; omega)
      rw [ea, eb, ec, ed, one ra, one rb, one rc, one rd]
      have oin : ∀ {u : Int}, -4294967296 ≤ u ∧ u ≤ 4294967296 → InI u := fun {u} h => by unfold InI; omega
      exact ⟨_, _, _, _, _, _, _, _, ⟨pin b1, pin b2, pin b3, oin ra, oin rb, oin rc, oin rd⟩, ⟨b1, b2, b3⟩, ⟨by omega, by omega⟩, rfl⟩
    · rw [if_neg tt]
      exact ⟨_, _, _, _, _, _, _, _, ⟨pin b1, pin b2, pin b3, h.2.2.2.1, h.2.2.2.2.1, h.2.2.2.2.2.1, h.2.2.2.2.2.2.1⟩, ⟨b1, b2, b3⟩, pt.2, rfl⟩
  · left
    rw [if_neg pt]
    refine ⟨_, ?_, rfl⟩
    by_cases p : Place p1 p2 p3
    · rw [if_pos p, if_neg fun k => pt ⟨p, k⟩]; decide
    · rw [if_neg p]; decide
end Go.X
