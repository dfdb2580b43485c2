/- Points of whatever poses are near enough to be rounded. -/
import Derived.Test.YtgfpllfimpgooaaGreatGN
import Derived.Test.YtgfpllfimpgooaaGreatJT7
import Derived.Test.YtgfpllfimpgooaaGreatJUN0
import Derived.Test.YtgfpllfimpgooaaGreatJUL
namespace Go.X
open Go.Proofs
attribute [local irreducible] Good

/-- what may be rounded -/
def LgN (a : Int) : Prop := -8796093022208 ≤ a ∧ a ≤ 8796093022208
theorem near_lg {a : Int} (h : LgN a) : PtN (nearI a) := by unfold nearI LgN PtN at *; omega
/-- a number of a point in a pose -/
def ouI (p a b c x y z : Int) : Int := clampI ((p * 4294967296 + a * x + b * y + c * z) / 4294967296)
theorem ouI_is {p a b c x y z : Int} : clampI ((p * 4294967296 + a * x + b * y + c * z) / 4294967296) = ouI p a b c x y z := rfl
theorem ouI_in {p a b c x y z : Int} : InI (ouI p a b c x y z) := InI_clamp _
/-- a number of a matrix of a rotation -/
def One1 (a : Int) : Prop := -4294967296 ≤ a ∧ a ≤ 4294967296
theorem mul_one1 {a x : Int} (ha : One1 a) (hx : SmN x) : -1180591620717411303424 ≤ a * x ∧ a * x ≤ 1180591620717411303424 := by
  unfold One1 SmN at *
  have h1 := mulb ha hx
  omega
theorem ouI_lg {p a b c x y z : Int} (hp : PlN p) (ha : One1 a) (hb : One1 b) (hc : One1 c) (hx : SmN x) (hy : SmN y) (hz : SmN z) : LgN (ouI p a b c x y z) := by
  have h1 := mul_one1 ha hx
  have h2 := mul_one1 hb hy
  have h3 := mul_one1 hc hz
  unfold PlN at hp
  unfold ouI
  rw [clampI_self (by unfold InI; omega)]
  unfold LgN; omega
theorem Turn_one {a b c d : Int} (tt : TurnP a b c d) :
    (One1 (clampI (quoI (r00 a b c d * 4294967296) (sq4 a b c d))) ∧ One1 (clampI (quoI (r01 a b c d * 4294967296) (sq4 a b c d))) ∧ One1 (clampI (quoI (r02 a b c d * 4294967296) (sq4 a b c d)))) ∧
    (One1 (clampI (quoI (r10 a b c d * 4294967296) (sq4 a b c d))) ∧ One1 (clampI (quoI (r11 a b c d * 4294967296) (sq4 a b c d))) ∧ One1 (clampI (quoI (r12 a b c d * 4294967296) (sq4 a b c d)))) ∧
    (One1 (clampI (quoI (r20 a b c d * 4294967296) (sq4 a b c d))) ∧ One1 (clampI (quoI (r21 a b c d * 4294967296) (sq4 a b c d))) ∧ One1 (clampI (quoI (r22 a b c d * 4294967296) (sq4 a b c d)))) := by
  have sp := Turn_pos tt
  have h0 : r00 a b c d * r00 a b c d + r01 a b c d * r01 a b c d + r02 a b c d * r02 a b c d = sq4 a b c d * sq4 a b c d := by unfold r00 r01 r02 sq4; grind
  have h1 : r10 a b c d * r10 a b c d + r11 a b c d * r11 a b c d + r12 a b c d * r12 a b c d = sq4 a b c d * sq4 a b c d := by unfold r10 r11 r12 sq4; grind
  have h2 : r20 a b c d * r20 a b c d + r21 a b c d * r21 a b c d + r22 a b c d * r22 a b c d = sq4 a b c d * sq4 a b c d := by unfold r20 r21 r22 sq4; grind
  have one : ∀ {u : Int}, -4294967296 ≤ u ∧ u ≤ 4294967296 → One1 (clampI u) := fun {u} h => by rw [clampI_self (by unfold InI; omega)]; exact h
  obtain ⟨u0, v0, w0, x0, y0, z0, p0, q0, s0, -, -⟩ := row_near sp h0
  obtain ⟨u1, v1, w1, x1, y1, z1, p1, q1, s1, -, -⟩ := row_near sp h1
  obtain ⟨u2, v2, w2, x2, y2, z2, p2, q2, s2, -, -⟩ := row_near sp h2
  rw [x0, y0, z0, x1, y1, z1, x2, y2, z2]
  exact ⟨⟨one p0, one q0, one s0⟩, ⟨one p1, one q1, one s1⟩, one p2, one q2, one s2⟩

noncomputable def gRoundWS : List AV → PR
  | [.agg [.int .i64 x, .int .i64 y, .int .i64 z]] => open Classical in if InI x ∧ InI y ∧ InI z ∧ LgN x ∧ LgN y ∧ LgN z then .val (.tup [.agg [.int .i64 (nearI x), .int .i64 (nearI y), .int .i64 (nearI z)], .int .i64 0]) else .fail
  | _ => .fail
@[simp] theorem gRoundWS_val {x y z : Int} (h : InI x ∧ InI y ∧ InI z ∧ LgN x ∧ LgN y ∧ LgN z) : gRoundWS [.agg [.int .i64 x, .int .i64 y, .int .i64 z]] = .val (.tup [.agg [.int .i64 (nearI x), .int .i64 (nearI y), .int .i64 (nearI z)], .int .i64 0]) := if_pos h
theorem gRoundW_ok : SumOk Tryz.prog 23 (pureS gRoundWS) := by
  refine sum_fn (L := fun i => if i = 1 then some (.quiet 11) else none) (n := 1) (S := stOf [(57, pureS gCheckS), (73, pureS gnearS)]) drawS Tryz.T_ok (stOf_ok (by simp [gCheck_ok, gnear_ok])) Tryz.func23 rfl (by kernel_rfl) (by kernel_rfl) ?_
    (by intro args v h; unfold gRoundWS at h; split at h <;> (try split at h) <;> simp at h)
  intro args v h
  unfold gRoundWS at h
  split at h
  · rename_i x y z
    split at h
    · rename_i hc
      obtain ⟨hx, hy, hz, e0, e1, e2⟩ := hc
      cases h
      refine ⟨by simp, by simp, by simp, ?_⟩
      simp [Tryz.f23, hx, hy, hz, near_in hx, near_in hy, near_in hz, (show Pt3 (nearI x) (nearI y) (nearI z) from ⟨near_lg e0, near_lg e1, near_lg e2⟩)]
    · simp at h
  · simp at h

noncomputable def r6RoundWS : List AV → PR
  | [.agg [.int .i64 x, .int .i64 y, .int .i64 z]] => open Classical in if InI x ∧ InI y ∧ InI z ∧ LgN x ∧ LgN y ∧ LgN z then .val (.tup [.agg [.int .i64 (nearI x), .int .i64 (nearI y), .int .i64 (nearI z)], .int .i64 0]) else .fail
  | _ => .fail
@[simp] theorem r6RoundWS_val {x y z : Int} (h : InI x ∧ InI y ∧ InI z ∧ LgN x ∧ LgN y ∧ LgN z) : r6RoundWS [.agg [.int .i64 x, .int .i64 y, .int .i64 z]] = .val (.tup [.agg [.int .i64 (nearI x), .int .i64 (nearI y), .int .i64 (nearI z)], .int .i64 0]) := if_pos h
theorem r6RoundW_ok : SumOk Tryz.prog 89 (pureS r6RoundWS) := by
  refine sum_fn (L := fun i => if i = 1 then some (.quiet 11) else none) (n := 1) (S := stOf [(152, pureS r6CheckS), (151, pureS r6nearS)]) drawS Tryz.T_ok (stOf_ok (by simp [r6Check_ok, r6near_ok])) Tryz.func89 rfl (by kernel_rfl) (by kernel_rfl) ?_
    (by intro args v h; unfold r6RoundWS at h; split at h <;> (try split at h) <;> simp at h)
  intro args v h
  unfold r6RoundWS at h
  split at h
  · rename_i x y z
    split at h
    · rename_i hc
      obtain ⟨hx, hy, hz, e0, e1, e2⟩ := hc
      cases h
      refine ⟨by simp, by simp, by simp, ?_⟩
      simp [Tryz.f89, hx, hy, hz, near_in hx, near_in hy, near_in hz, (show Pt3 (nearI x) (nearI y) (nearI z) from ⟨near_lg e0, near_lg e1, near_lg e2⟩)]
    · simp at h
  · simp at h

end Go.X
