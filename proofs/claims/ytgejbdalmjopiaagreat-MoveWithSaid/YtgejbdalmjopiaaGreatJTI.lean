/- Bodies that go on. -/
import Derived.Test.YtgejbdalmjopiaaGreatJTF
namespace Go.X
open Go.Proofs
attribute [local irreducible] Good
def goL (i : Nat) : Option DM := if i = 10 then some (.dag #[(0, [(0, 1), (1, 2), (5, 3)]), (1, [(1, 4), (5, 5), (6, 6)]), (2, [(0, 4), (2, 7), (5, 8)]), (32, [(0, 5), (1, 8)]), (3, [(2, 9), (5, 10), (6, 11)]), (33, [(1, 10), (6, 12)]), (65, [(1, 11), (5, 12)]), (6, [(0, 9), (3, 13), (5, 14)]), (34, [(0, 10), (2, 14)]), (7, [(3, 15), (5, 16), (6, 17)]), (35, [(2, 16), (6, 18)]), (67, [(2, 17), (5, 18)]), (97, [(1, 18)]), (14, [(0, 15), (4, 19), (5, 20)]), (38, [(0, 16), (3, 20)]), (15, [(4, 21), (5, 22), (6, 23)]), (39, [(3, 22), (6, 24)]), (71, [(3, 23), (5, 24)]), (99, [(2, 24)]), (30, [(0, 21), (5, 25)]), (46, [(0, 22), (4, 25)]), (31, [(5, 26), (6, 27)]), (47, [(4, 26), (6, 28)]), (79, [(4, 27), (5, 28)]), (103, [(3, 28)]), (62, [(0, 26)]), (63, [(6, 29)]), (95, [(5, 29), (7, 30)]), (111, [(4, 29)]), (127, [(7, 31)]), (223, [(5, 31)]), (255, [(8, 32)]), (511, [])]) else none
set_option maxHeartbeats 400000000 in
set_option maxRecDepth 100000 in
theorem go_ok : SumOk Tryz.prog 18 goS := by
  refine sum_mem (L := goL) (n := 1) (S := stOf [(38, chS), (25, mvFixS), (39, shCopyS), (43, pureS pMoveS)]) drawS Tryz.T_ok (stOf_ok (by simp [ch_ok, mvFix_ok, shCopy_ok, pMove_ok])) Tryz.func18 rfl (by kernel_rfl) (by kernel_rfl) ?_
  intro args env nxt h
  unfold goS at h ⊢
  split at h
  · rename_i ident kd r x y z l p1 p2 p3 q0 q1 q2 q3 M vx vy vz wx wy wz rub t
    split at h
    · rename_i n f hl
      split at h
      · rename_i hc
        simp only [if_pos hc]
        obtain ⟨⟨hid, ⟨i1, i2, i3, j0, j1, j2, j3⟩, ⟨hM, ⟨v0, v1, v2⟩, w0, w1, w2⟩, hrub⟩, hsh, ht⟩ := id hc
        rcases laid_shape (fun l => [.agg [.int .i64 ident, .int .i64 kd, .int .i64 r, .int .i64 x, .int .i64 y, .int .i64 z, l, .int .i64 p1, .int .i64 p2, .int .i64 p3, .int .i64 q0, .int .i64 q1, .int .i64 q2, .int .i64 q3, .int .i64 M, .int .i64 vx, .int .i64 vy, .int .i64 vz, .int .i64 wx, .int .i64 wy, .int .i64 wz, .int .i64 rub], .int .i64 t]) hl (fun _ _ => rfl) (fun l => by simp) with ⟨rfl, rfl, rfl, hlaid⟩ | ⟨p, o1, c, items, ty, rfl, hlaid, hnc, hr', ⟨o, F, hrow, hf⟩, hE, hE2, hload⟩
        · refine ⟨_, _, _, hlaid, ?_⟩
          have hct := eq_true hsh
          have hn6 : 0 ≤ 1048576 := by have := hsh.2.2.2.2.2.1; omega
          by_cases bo : boI ident kd r x y z 0 (fun _ => 0) p1 p2 p3 q0 q1 q2 q3 M vx vy vz wx wy wz rub = 0
          · obtain ⟨-, th, -, -⟩ := bo_parts bo
            obtain ⟨pl, tt, -⟩ := th_parts th
            by_cases t0 : t < 0
            · have e : chI ident kd r x y z p1 p2 p3 q0 q1 q2 q3 M vx vy vz wx wy wz rub 0 (fun _ => 0) t = 2 := by unfold chI; rw [if_pos bo, if_pos (by omega)]
              rw [if_neg (by omega), e]
              simp (maxSteps := 10000000) [Tryz.f18, chS, hid, i1, i2, i3, j0, j1, j2, j3, hM, v0, v1, v2, w0, w1, w2, hrub, hct, ht, e]
              exact ⟨[], none, told_none (by simp) (by simp) (by simp [refs, refsL]) (by simp)⟩
            by_cases t1 : 4294967296 < t
            · have e : chI ident kd r x y z p1 p2 p3 q0 q1 q2 q3 M vx vy vz wx wy wz rub 0 (fun _ => 0) t = 2 := by unfold chI; rw [if_pos bo, if_pos (by omega)]
              rw [if_neg (by omega), e]
              simp (maxSteps := 10000000) [Tryz.f18, chS, hid, i1, i2, i3, j0, j1, j2, j3, hM, v0, v1, v2, w0, w1, w2, hrub, hct, ht, e]
              exact ⟨[], none, told_none (by simp) (by simp) (by simp [refs, refsL]) (by simp)⟩
            have ok : boI ident kd r x y z 0 (fun _ => 0) p1 p2 p3 q0 q1 q2 q3 M vx vy vz wx wy wz rub = 0 ∧ 0 ≤ t ∧ t ≤ 4294967296 := ⟨bo, by omega, by omega⟩
            have e : chI ident kd r x y z p1 p2 p3 q0 q1 q2 q3 M vx vy vz wx wy wz rub 0 (fun _ => 0) t = 0 := by unfold chI; rw [if_pos bo, if_neg (by omega)]
            by_cases m0 : M = 0
            · subst m0
              rw [if_pos ok, if_pos rfl]
              simp (maxSteps := 10000000) [Tryz.f18, chS, mvFixS, shCopyS, copyR, hn6, hid, i1, i2, i3, j0, j1, j2, j3, hM, v0, v1, v2, w0, w1, w2, hrub, hct, ht, e]
              exact ⟨[], none, told_keep (by simp) (by simp) (by simp) (by simp) (by simp) (by simp) (by simp [AV.ren, renL]) (by simp [refs, refsL]) (by simp) (by simp)⟩
            · obtain ⟨P1, P2, P3, Q0, Q1, Q2, Q3, cl, hI, -, -, hm, hp⟩ := pm_is ⟨i1, i2, i3, j0, j1, j2, j3, v0, v1, v2, w0, w1, w2, ht⟩ pl tt
              cases cl with
              | true =>
                rw [if_pos ok, if_neg m0, hp, if_pos rfl]
                simp (maxSteps := 10000000) [Tryz.f18, goL, chS, mvFixS, shCopyS, copyR, hn6, hid, i1, i2, i3, j0, j1, j2, j3, hM, v0, v1, v2, w0, w1, w2, hrub, hct, ht, m0, hm, -pMoveS_val, e]
                exact ⟨[3], none, told_keep (by simp) (by simp) (by simp) (by simp) (by simp [ClB]) (by simp [ClB]) (by simp [AV.ren, renL, glob]) (by simp [refs, refsL]) (by simp) (by simp)⟩
              | false =>
                rw [if_pos ok, if_neg m0, hp, if_neg (by simp)]
                simp (maxSteps := 10000000) [Tryz.f18, chS, mvFixS, shCopyS, copyR, hn6, hid, i1, i2, i3, j0, j1, j2, j3, hM, v0, v1, v2, w0, w1, w2, hrub, hct, ht, m0, hm, -pMoveS_val, e]
                exact ⟨[], none, told_keep (by simp) (by simp) (by simp) (by simp) (by simp) (by simp) (by simp [AV.ren, renL]) (by simp [refs, refsL]) (by simp) (by simp)⟩
          · have e : chI ident kd r x y z p1 p2 p3 q0 q1 q2 q3 M vx vy vz wx wy wz rub 0 (fun _ => 0) t = boI ident kd r x y z 0 (fun _ => 0) p1 p2 p3 q0 q1 q2 q3 M vx vy vz wx wy wz rub := by unfold chI; rw [if_neg bo]
            rw [if_neg (by exact fun k => bo k.1), e]
            simp (maxSteps := 10000000) [Tryz.f18, chS, hid, i1, i2, i3, j0, j1, j2, j3, hM, v0, v1, v2, w0, w1, w2, hrub, hct, ht, bo, e]
            exact ⟨[], none, told_none (by simp) (by simp) (by simp [refs, refsL]) (by simp)⟩
        · refine ⟨_, _, _, hlaid, ?_⟩
          have hct := eq_true hsh
          have hn6 : n ≤ 1048576 := by have := hsh.2.2.2.2.2.1; omega
          by_cases bo : boI ident kd r x y z n f p1 p2 p3 q0 q1 q2 q3 M vx vy vz wx wy wz rub = 0
          · obtain ⟨-, th, -, -⟩ := bo_parts bo
            obtain ⟨pl, tt, -⟩ := th_parts th
            by_cases t0 : t < 0
            · have e : chI ident kd r x y z p1 p2 p3 q0 q1 q2 q3 M vx vy vz wx wy wz rub n f t = 2 := by unfold chI; rw [if_pos bo, if_pos (by omega)]
              rw [if_neg (by omega), e]
              simp (maxSteps := 10000000) [Tryz.f18, chS, hid, i1, i2, i3, j0, j1, j2, j3, hM, v0, v1, v2, w0, w1, w2, hrub, hct, ht, hE, e]
              exact ⟨[], none, told_none (by simp) (by simp) (by simp [refs, refsL]) (by simp) (by simp [hr'])⟩
            by_cases t1 : 4294967296 < t
            · have e : chI ident kd r x y z p1 p2 p3 q0 q1 q2 q3 M vx vy vz wx wy wz rub n f t = 2 := by unfold chI; rw [if_pos bo, if_pos (by omega)]
              rw [if_neg (by omega), e]
              simp (maxSteps := 10000000) [Tryz.f18, chS, hid, i1, i2, i3, j0, j1, j2, j3, hM, v0, v1, v2, w0, w1, w2, hrub, hct, ht, hE, e]
              exact ⟨[], none, told_none (by simp) (by simp) (by simp [refs, refsL]) (by simp) (by simp [hr'])⟩
            have ok : boI ident kd r x y z n f p1 p2 p3 q0 q1 q2 q3 M vx vy vz wx wy wz rub = 0 ∧ 0 ≤ t ∧ t ≤ 4294967296 := ⟨bo, by omega, by omega⟩
            have e : chI ident kd r x y z p1 p2 p3 q0 q1 q2 q3 M vx vy vz wx wy wz rub n f t = 0 := by unfold chI; rw [if_pos bo, if_neg (by omega)]
            by_cases m0 : M = 0
            · subst m0
              rw [if_pos ok, if_pos rfl]
              rw [copyR_sl hl]
              simp (maxSteps := 10000000) [Tryz.f18, chS, mvFixS, shCopyS, copyR, hn6, hid, i1, i2, i3, j0, j1, j2, j3, hM, v0, v1, v2, w0, w1, w2, hrub, hct, ht, hE, e]
              intro k
              exact ⟨[3], none, .inr ⟨_, ⟨k, rfl⟩, told_keep (by simp) (by simp) (by simp) (by simp) (by simp) (by simp) (by simp [AV.ren, renL, glob]) (by simp [refs, refsL]) (by simp) (by simp [hr'])⟩⟩
            · obtain ⟨P1, P2, P3, Q0, Q1, Q2, Q3, cl, hI, -, -, hm, hp⟩ := pm_is ⟨i1, i2, i3, j0, j1, j2, j3, v0, v1, v2, w0, w1, w2, ht⟩ pl tt
              cases cl with
              | true =>
                rw [if_pos ok, if_neg m0, hp, if_pos rfl]
                rw [copyR_sl hl]
                simp (maxSteps := 10000000) [Tryz.f18, goL, chS, mvFixS, shCopyS, copyR, hn6, hid, i1, i2, i3, j0, j1, j2, j3, hM, v0, v1, v2, w0, w1, w2, hrub, hct, ht, hE, m0, hm, -pMoveS_val, e]
                intro k
                exact ⟨[3, 5], none, .inr ⟨_, ⟨k, rfl⟩, told_keep (by simp) (by simp) (by simp) (by simp) (by simp [ClB]) (by simp [ClB]) (by simp [AV.ren, renL, glob, List.idxOf_cons]) (by simp [refs, refsL]) (by simp) (by simp [hr'])⟩⟩
              | false =>
                rw [if_pos ok, if_neg m0, hp, if_neg (by simp)]
                rw [copyR_sl hl]
                simp (maxSteps := 10000000) [Tryz.f18, chS, mvFixS, shCopyS, copyR, hn6, hid, i1, i2, i3, j0, j1, j2, j3, hM, v0, v1, v2, w0, w1, w2, hrub, hct, ht, hE, m0, hm, -pMoveS_val, e]
                intro k
                exact ⟨[3], none, .inr ⟨_, ⟨k, rfl⟩, told_keep (by simp) (by simp) (by simp) (by simp) (by simp) (by simp) (by simp [AV.ren, renL, glob]) (by simp [refs, refsL]) (by simp) (by simp [hr'])⟩⟩
          · have e : chI ident kd r x y z p1 p2 p3 q0 q1 q2 q3 M vx vy vz wx wy wz rub n f t = boI ident kd r x y z n f p1 p2 p3 q0 q1 q2 q3 M vx vy vz wx wy wz rub := by unfold chI; rw [if_neg bo]
            rw [if_neg (by exact fun k => bo k.1), e]
            simp (maxSteps := 10000000) [Tryz.f18, chS, hid, i1, i2, i3, j0, j1, j2, j3, hM, v0, v1, v2, w0, w1, w2, hrub, hct, ht, hE, bo, e]
            exact ⟨[], none, told_none (by simp) (by simp) (by simp [refs, refsL]) (by simp) (by simp [hr'])⟩
      · simp [*] at h
    · simp [*] at h
  · simp at h
end Go.X
