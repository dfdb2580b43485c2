/- Points of a shape in a pose are no further off than they may be; a pose that is moved may be. -/
import Derived.Test.YtgejbdalmjopiaaGreatJUO
namespace Go.X
open Go.Proofs
theorem pMove_two {p1 p2 p3 q0 q1 q2 q3 x y z u v w t : Int} (h : InI p1 ∧ InI p2 ∧ InI p3 ∧ InI q0 ∧ InI q1 ∧ InI q2 ∧ InI q3 ∧ InI x ∧ InI y ∧ InI z ∧ InI u ∧ InI v ∧ InI w ∧ InI t) :
    (∃ c : Int, c ≠ 0 ∧ pMoveS [.agg [.int .i64 p1, .int .i64 p2, .int .i64 p3, .int .i64 q0, .int .i64 q1, .int .i64 q2, .int .i64 q3], .agg [.int .i64 x, .int .i64 y, .int .i64 z], .agg [.int .i64 u, .int .i64 v, .int .i64 w], .int .i64 t] = .val (.tup [.agg [.int .i64 0, .int .i64 0, .int .i64 0, .int .i64 0, .int .i64 0, .int .i64 0, .int .i64 0], .bool false, .int .i64 c])) ∨
    ∃ (P1 P2 P3 Q0 Q1 Q2 Q3 : Int) (cl : Bool), (InI P1 ∧ InI P2 ∧ InI P3 ∧ InI Q0 ∧ InI Q1 ∧ InI Q2 ∧ InI Q3) ∧ Place P1 P2 P3 ∧ TurnP Q0 Q1 Q2 Q3 ∧ pMoveS [.agg [.int .i64 p1, .int .i64 p2, .int .i64 p3, .int .i64 q0, .int .i64 q1, .int .i64 q2, .int .i64 q3], .agg [.int .i64 x, .int .i64 y, .int .i64 z], .agg [.int .i64 u, .int .i64 v, .int .i64 w], .int .i64 t] = .val (.tup [.agg [.int .i64 P1, .int .i64 P2, .int .i64 P3, .int .i64 Q0, .int .i64 Q1, .int .i64 Q2, .int .i64 Q3], .bool cl, .int .i64 0]) := by
  rw [pMoveS_val h]
  by_cases pt : Place p1 p2 p3 ∧ TurnP q0 q1 q2 q3
  · right
    rw [if_pos pt]
    have b1 := @plI_in (mvI p1 x t)
    have b2 := @plI_in (mvI p2 y t)
    have b3 := @plI_in (mvI p3 z t)
    have pin : ∀ {a : Int}, -4398046511104 ≤ a ∧ a ≤ 4398046511104 → InI a := fun {a} k => by unfold InI; omega
    by_cases tt : TurnP (sp0 q0 q1 q2 q3 u v w t) (sp1 q0 q1 q2 q3 u v w t) (sp2 q0 q1 q2 q3 u v w t) (sp3 q0 q1 q2 q3 u v w t)
    · rw [if_pos tt]
      obtain ⟨a, b, c, d, ea, eb, ec, ed, ra, rb, rc, rd, -, -, -, -, n1, n2⟩ := unit_near (Turn_pos tt)
      have one : ∀ {u : Int}, -4294967296 ≤ u ∧ u ≤ 4294967296 → clampI u = u := fun {u} h => clampI_self (by unfold InI; omega)
      rw [ea, eb, ec, ed, one ra, one rb, one rc, one rd]
      have oin : ∀ {u : Int}, -4294967296 ≤ u ∧ u ≤ 4294967296 → InI u := fun {u} h => by unfold InI; omega
      exact ⟨_, _, _, _, _, _, _, _, ⟨pin b1, pin b2, pin b3, oin ra, oin rb, oin rc, oin rd⟩, ⟨b1, b2, b3⟩, ⟨by omega, by omega⟩, rfl⟩
    · rw [if_neg tt]
      exact ⟨_, _, _, _, _, _, _, _, ⟨pin b1, pin b2, pin b3, h.2.2.2.1, h.2.2.2.2.1, h.2.2.2.2.2.1, h.2.2.2.2.2.2.1⟩, ⟨b1, b2, b3⟩, pt.2, rfl⟩
  · left
    rw [if_neg pt]
    refine ⟨_, ?_, rfl⟩
    by_cases p : Place p1 p2 p3
    · rw [if_pos p, if_neg fun k => pt ⟨p, k⟩]; decide
    · rw [if_neg p]; decide
end Go.X
