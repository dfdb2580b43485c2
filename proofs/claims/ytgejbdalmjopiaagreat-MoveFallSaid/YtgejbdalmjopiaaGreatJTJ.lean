/- Bodies that go on: the document. -/
import Derived.Test.YtgejbdalmjopiaaGreatJTF
namespace Go.X
open Go.Proofs
attribute [local irreducible] Good
theorem r11_same : r11MoveS = pMoveS := rfl
def rgoL (i : Nat) : Option DM := if i = 11 then some (.dag #[(0, [(0, 1), (1, 2)]), (1, [(1, 3), (5, 4)]), (2, [(0, 3), (2, 5)]), (3, [(2, 6), (5, 7)]), (33, [(1, 7)]), (6, [(0, 6), (3, 8)]), (7, [(3, 9), (5, 10)]), (35, [(2, 10)]), (14, [(0, 9), (4, 11)]), (15, [(4, 12), (5, 13)]), (39, [(3, 13)]), (30, [(0, 12)]), (31, [(5, 14)]), (47, [(4, 14)]), (63, [(6, 15)]), (127, [(7, 16)]), (255, [])]) else none
set_option maxHeartbeats 400000000 in
set_option maxRecDepth 100000 in
theorem rgo_ok : SumOk Tryz.prog 19 rgoS := by
  refine sum_mem (L := rgoL) (n := 1) (S := stOf [(12, boCkS), (44, pureS pMoveS)]) drawS Tryz.T_ok (stOf_ok (by simp [r24Ck_ok, r11_same ▸ r11Move_ok])) Tryz.func19 rfl (by kernel_rfl) (by kernel_rfl) ?_
  intro args env nxt h
  unfold rgoS at h ⊢
  split at h
  · rename_i ident kd r x y z l p1 p2 p3 q0 q1 q2 q3 M vx vy vz wx wy wz rub t
    split at h
    · rename_i n f hl
      split at h
      · rename_i hc
        simp only [if_pos hc]
        obtain ⟨⟨hid, ⟨i1, i2, i3, j0, j1, j2, j3⟩, ⟨hM, ⟨v0, v1, v2⟩, w0, w1, w2⟩, hrub⟩, hsh, ht⟩ := id hc
        rcases laid_shape (fun l => [.agg [.int .i64 ident, .int .i64 kd, .int .i64 r, .int .i64 x, .int .i64 y, .int .i64 z, l, .int .i64 p1, .int .i64 p2, .int .i64 p3, .int .i64 q0, .int .i64 q1, .int .i64 q2, .int .i64 q3, .int .i64 M, .int .i64 vx, .int .i64 vy, .int .i64 vz, .int .i64 wx, .int .i64 wy, .int .i64 wz, .int .i64 rub], .int .i64 t]) hl (fun _ _ => rfl) (fun l => by simp) with ⟨rfl, rfl, rfl, hlaid⟩ | ⟨p, o1, c, items, ty, rfl, hlaid, hnc, hr', ⟨o, F, hrow, hf⟩, hE, hE2, hload⟩
        · refine ⟨_, _, _, hlaid, ?_⟩
          have hct := eq_true hsh
          by_cases bo : boI ident kd r x y z 0 (fun _ => 0) p1 p2 p3 q0 q1 q2 q3 M vx vy vz wx wy wz rub = 0
          · obtain ⟨-, th, -, -⟩ := bo_parts bo
            obtain ⟨pl, tt, -⟩ := th_parts th
            by_cases t0 : t < 0
            · have e : chI ident kd r x y z p1 p2 p3 q0 q1 q2 q3 M vx vy vz wx wy wz rub 0 (fun _ => 0) t = 2 := by unfold chI; rw [if_pos bo, if_pos (by omega)]
              rw [if_neg (by omega), e]
              simp (maxSteps := 10000000) [Tryz.f19, boCkS, hid, i1, i2, i3, j0, j1, j2, j3, hM, v0, v1, v2, w0, w1, w2, hrub, hct, bo, t0]
              exact ⟨[], none, told_none (by simp) (by simp) (by simp [refs, refsL]) (by simp)⟩
            by_cases t1 : 4294967296 < t
            · have e : chI ident kd r x y z p1 p2 p3 q0 q1 q2 q3 M vx vy vz wx wy wz rub 0 (fun _ => 0) t = 2 := by unfold chI; rw [if_pos bo, if_pos (by omega)]
              rw [if_neg (by omega), e]
              simp (maxSteps := 10000000) [Tryz.f19, boCkS, hid, i1, i2, i3, j0, j1, j2, j3, hM, v0, v1, v2, w0, w1, w2, hrub, hct, bo, t0, t1]
              exact ⟨[], none, told_none (by simp) (by simp) (by simp [refs, refsL]) (by simp)⟩
            have ok : boI ident kd r x y z 0 (fun _ => 0) p1 p2 p3 q0 q1 q2 q3 M vx vy vz wx wy wz rub = 0 ∧ 0 ≤ t ∧ t ≤ 4294967296 := ⟨bo, by omega, by omega⟩
            
            by_cases m0 : M = 0
            · subst m0
              rw [if_pos ok, if_pos rfl]
              simp (maxSteps := 10000000) [Tryz.f19, boCkS, hid, i1, i2, i3, j0, j1, j2, j3, hM, v0, v1, v2, w0, w1, w2, hrub, hct, bo, t0, t1]
              exact ⟨[], none, told_keep (by simp) (by simp) (by simp) (by simp) (by simp) (by simp) (by simp [AV.ren, renL]) (by simp [refs, refsL]) (by simp) (by simp)⟩
            · obtain ⟨P1, P2, P3, Q0, Q1, Q2, Q3, cl, hI, -, -, hm, hp⟩ := pm_is ⟨i1, i2, i3, j0, j1, j2, j3, v0, v1, v2, w0, w1, w2, ht⟩ pl tt
              cases cl with
              | true =>
                rw [if_pos ok, if_neg m0, hp, if_pos rfl]
                simp (maxSteps := 10000000) [Tryz.f19, rgoL, boCkS, hid, i1, i2, i3, j0, j1, j2, j3, hM, v0, v1, v2, w0, w1, w2, hrub, hct, bo, t0, t1, m0, hm, -pMoveS_val]
                exact ⟨[3], none, told_keep (by simp) (by simp) (by simp) (by simp) (by simp [ClB]) (by simp [ClB]) (by simp [AV.ren, renL, glob]) (by simp [refs, refsL]) (by simp) (by simp)⟩
              | false =>
                rw [if_pos ok, if_neg m0, hp, if_neg (by simp)]
                simp (maxSteps := 10000000) [Tryz.f19, boCkS, hid, i1, i2, i3, j0, j1, j2, j3, hM, v0, v1, v2, w0, w1, w2, hrub, hct, bo, t0, t1, m0, hm, -pMoveS_val]
                exact ⟨[], none, told_keep (by simp) (by simp) (by simp) (by simp) (by simp) (by simp) (by simp [AV.ren, renL]) (by simp [refs, refsL]) (by simp) (by simp)⟩
          · have e : chI ident kd r x y z p1 p2 p3 q0 q1 q2 q3 M vx vy vz wx wy wz rub 0 (fun _ => 0) t = boI ident kd r x y z 0 (fun _ => 0) p1 p2 p3 q0 q1 q2 q3 M vx vy vz wx wy wz rub := by unfold chI; rw [if_neg bo]
            rw [if_neg (by exact fun k => bo k.1), e]
            simp (maxSteps := 10000000) [Tryz.f19, boCkS, hid, i1, i2, i3, j0, j1, j2, j3, hM, v0, v1, v2, w0, w1, w2, hrub, hct, bo]
            exact ⟨[], none, told_none (by simp) (by simp) (by simp [refs, refsL]) (by simp)⟩
        · refine ⟨_, _, _, hlaid, ?_⟩
          have hct := eq_true hsh
          by_cases bo : boI ident kd r x y z n f p1 p2 p3 q0 q1 q2 q3 M vx vy vz wx wy wz rub = 0
          · obtain ⟨-, th, -, -⟩ := bo_parts bo
            obtain ⟨pl, tt, -⟩ := th_parts th
            by_cases t0 : t < 0
            · have e : chI ident kd r x y z p1 p2 p3 q0 q1 q2 q3 M vx vy vz wx wy wz rub n f t = 2 := by unfold chI; rw [if_pos bo, if_pos (by omega)]
              rw [if_neg (by omega), e]
              simp (maxSteps := 10000000) [Tryz.f19, boCkS, hid, i1, i2, i3, j0, j1, j2, j3, hM, v0, v1, v2, w0, w1, w2, hrub, hct, hE, bo, t0]
              exact ⟨[], none, told_none (by simp) (by simp) (by simp [refs, refsL]) (by simp) (by simp [hr'])⟩
            by_cases t1 : 4294967296 < t
            · have e : chI ident kd r x y z p1 p2 p3 q0 q1 q2 q3 M vx vy vz wx wy wz rub n f t = 2 := by unfold chI; rw [if_pos bo, if_pos (by omega)]
              rw [if_neg (by omega), e]
              simp (maxSteps := 10000000) [Tryz.f19, boCkS, hid, i1, i2, i3, j0, j1, j2, j3, hM, v0, v1, v2, w0, w1, w2, hrub, hct, hE, bo, t0, t1]
              exact ⟨[], none, told_none (by simp) (by simp) (by simp [refs, refsL]) (by simp) (by simp [hr'])⟩
            have ok : boI ident kd r x y z n f p1 p2 p3 q0 q1 q2 q3 M vx vy vz wx wy wz rub = 0 ∧ 0 ≤ t ∧ t ≤ 4294967296 := ⟨bo, by omega, by omega⟩
            
            by_cases m0 : M = 0
            · subst m0
              rw [if_pos ok, if_pos rfl]
              simp (maxSteps := 10000000) [Tryz.f19, boCkS, hid, i1, i2, i3, j0, j1, j2, j3, hM, v0, v1, v2, w0, w1, w2, hrub, hct, hE, bo, t0, t1]
              exact ⟨[], none, told_keep (by simp) (by simp) (by simp) (by simp) (by simp) (by simp) (by simp [AV.ren, renL, glob]) (by simp [refs, refsL]) (by simp) (by simp [hr'])⟩
            · obtain ⟨P1, P2, P3, Q0, Q1, Q2, Q3, cl, hI, -, -, hm, hp⟩ := pm_is ⟨i1, i2, i3, j0, j1, j2, j3, v0, v1, v2, w0, w1, w2, ht⟩ pl tt
              cases cl with
              | true =>
                rw [if_pos ok, if_neg m0, hp, if_pos rfl]
                simp (maxSteps := 10000000) [Tryz.f19, rgoL, boCkS, hid, i1, i2, i3, j0, j1, j2, j3, hM, v0, v1, v2, w0, w1, w2, hrub, hct, hE, bo, t0, t1, m0, hm, -pMoveS_val]
                exact ⟨[4], none, told_keep (by simp) (by simp) (by simp) (by simp) (by simp [ClB]) (by simp [ClB]) (by simp [AV.ren, renL, glob]) (by simp [refs, refsL]) (by simp) (by simp [hr'])⟩
              | false =>
                rw [if_pos ok, if_neg m0, hp, if_neg (by simp)]
                simp (maxSteps := 10000000) [Tryz.f19, boCkS, hid, i1, i2, i3, j0, j1, j2, j3, hM, v0, v1, v2, w0, w1, w2, hrub, hct, hE, bo, t0, t1, m0, hm, -pMoveS_val]
                exact ⟨[], none, told_keep (by simp) (by simp) (by simp) (by simp) (by simp) (by simp) (by simp [AV.ren, renL, glob]) (by simp [refs, refsL]) (by simp) (by simp [hr'])⟩
          · have e : chI ident kd r x y z p1 p2 p3 q0 q1 q2 q3 M vx vy vz wx wy wz rub n f t = boI ident kd r x y z n f p1 p2 p3 q0 q1 q2 q3 M vx vy vz wx wy wz rub := by unfold chI; rw [if_neg bo]
            rw [if_neg (by exact fun k => bo k.1), e]
            simp (maxSteps := 10000000) [Tryz.f19, boCkS, hid, i1, i2, i3, j0, j1, j2, j3, hM, v0, v1, v2, w0, w1, w2, hrub, hct, hE, bo]
            exact ⟨[], none, told_none (by simp) (by simp) (by simp [refs, refsL]) (by simp) (by simp [hr'])⟩
      · simp [*] at h
    · simp [*] at h
  · simp at h
end Go.X
