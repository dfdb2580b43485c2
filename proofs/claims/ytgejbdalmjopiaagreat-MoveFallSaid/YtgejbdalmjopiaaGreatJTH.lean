/- Bodies that fall: the document. -/
import Derived.Test.YtgejbdalmjopiaaGreatJTF
namespace Go.X
open Go.Proofs
attribute [local irreducible] Good
def rfallL (i : Nat) : Option DM := if i = 12 then some (.dag #[(0, [(0, 1), (1, 2)]), (1, [(1, 3), (5, 4)]), (2, [(0, 3), (2, 5)]), (3, [(2, 6), (5, 7)]), (33, [(1, 7)]), (6, [(0, 6), (3, 8)]), (7, [(3, 9), (5, 10)]), (35, [(2, 10)]), (14, [(0, 9), (4, 11)]), (15, [(4, 12), (5, 13)]), (39, [(3, 13)]), (30, [(0, 12)]), (31, [(5, 14)]), (47, [(4, 14)]), (63, [(6, 15)]), (127, [(7, 16)]), (255, [])]) else none
set_option maxHeartbeats 400000000 in
set_option maxRecDepth 100000 in
theorem rfall_ok : SumOk Tryz.prog 17 rfallS := by
  refine sum_mem (L := rfallL) (n := 1) (S := stOf [(12, boCkS), (35, pureS r24clS), (42, pureS r3MoveS)]) drawS Tryz.T_ok (stOf_ok (by simp [r24Ck_ok, r24cl_ok, r3Move_ok])) Tryz.func17 rfl (by kernel_rfl) (by kernel_rfl) ?_
  intro args env nxt h
  unfold rfallS at h ⊢
  split at h
  · rename_i ident kd r x y z l p1 p2 p3 q0 q1 q2 q3 M vx vy vz wx wy wz rub gx gy gz t
    split at h
    · rename_i n f hl
      split at h
      · rename_i hc
        simp only [if_pos hc]
        obtain ⟨⟨hid, ⟨i1, i2, i3, j0, j1, j2, j3⟩, ⟨hM, ⟨v0, v1, v2⟩, w0, w1, w2⟩, hrub⟩, hsh, g0, g1, g2, ht⟩ := id hc
        rcases laid_shape (fun l => [.agg [.int .i64 ident, .int .i64 kd, .int .i64 r, .int .i64 x, .int .i64 y, .int .i64 z, l, .int .i64 p1, .int .i64 p2, .int .i64 p3, .int .i64 q0, .int .i64 q1, .int .i64 q2, .int .i64 q3, .int .i64 M, .int .i64 vx, .int .i64 vy, .int .i64 vz, .int .i64 wx, .int .i64 wy, .int .i64 wz, .int .i64 rub], .agg [.int .i64 gx, .int .i64 gy, .int .i64 gz], .int .i64 t]) hl (fun _ _ => rfl) (fun l => by simp) with ⟨rfl, rfl, rfl, hlaid⟩ | ⟨p, o1, c, items, ty, rfl, hlaid, hnc, hr', ⟨o, F, hrow, hf⟩, hE, hE2, hload⟩
        · refine ⟨_, _, _, hlaid, ?_⟩
          have hct := eq_true hsh
          by_cases bo : boI ident kd r x y z 0 (fun _ => 0) p1 p2 p3 q0 q1 q2 q3 M vx vy vz wx wy wz rub = 0
          · by_cases t0 : t < 0
            · have e : chI ident kd r x y z p1 p2 p3 q0 q1 q2 q3 M vx vy vz wx wy wz rub 0 (fun _ => 0) t = 2 := by unfold chI; rw [if_pos bo, if_pos (by omega)]
              rw [if_neg (by omega), e]
              simp (maxSteps := 10000000) [Tryz.f17, boCkS, hid, i1, i2, i3, j0, j1, j2, j3, hM, v0, v1, v2, w0, w1, w2, hrub, hct, bo, t0]
              exact ⟨[], none, told_none (by simp) (by simp) (by simp [refs, refsL]) (by simp)⟩
            by_cases t1 : 4294967296 < t
            · have e : chI ident kd r x y z p1 p2 p3 q0 q1 q2 q3 M vx vy vz wx wy wz rub 0 (fun _ => 0) t = 2 := by unfold chI; rw [if_pos bo, if_pos (by omega)]
              rw [if_neg (by omega), e]
              simp (maxSteps := 10000000) [Tryz.f17, boCkS, hid, i1, i2, i3, j0, j1, j2, j3, hM, v0, v1, v2, w0, w1, w2, hrub, hct, bo, t0, t1]
              exact ⟨[], none, told_none (by simp) (by simp) (by simp [refs, refsL]) (by simp)⟩
            have ok : boI ident kd r x y z 0 (fun _ => 0) p1 p2 p3 q0 q1 q2 q3 M vx vy vz wx wy wz rub = 0 ∧ 0 ≤ t ∧ t ≤ 4294967296 := ⟨bo, by omega, by omega⟩
            
            by_cases m0 : M = 0
            · subst m0
              rw [if_pos ok, if_pos rfl]
              simp (maxSteps := 10000000) [Tryz.f17, boCkS, hid, i1, i2, i3, j0, j1, j2, j3, hM, v0, v1, v2, w0, w1, w2, hrub, hct, bo, t0, t1]
              exact ⟨[], none, told_keep (by simp) (by simp) (by simp) (by simp) (by simp) (by simp) (by simp [AV.ren, renL]) (by simp [refs, refsL]) (by simp) (by simp)⟩
            · by_cases fk : spI (mvI vx gx t) = mvI vx gx t ∧ spI (mvI vy gy t) = mvI vy gy t ∧ spI (mvI vz gz t) = mvI vz gz t
              · have fe := fk
                obtain ⟨k0, k1, k2⟩ := fk
                rw [if_pos ok, if_neg m0, if_pos fe]
                simp (maxSteps := 10000000) [Tryz.f17, boCkS, hid, i1, i2, i3, j0, j1, j2, j3, hM, v0, v1, v2, w0, w1, w2, hrub, hct, g0, g1, g2, ht, mvI_is, mvI_in, ieq, bo, t0, t1, m0, k0, k1, k2]
                exact ⟨[], none, told_keep (by simp) (by simp) (by simp) (by simp) (by simp) (by simp) (by simp [AV.ren, renL]) (by simp [refs, refsL]) (by simp) (by simp)⟩
              · have fk' : (spI (mvI vx gx t) == mvI vx gx t && (spI (mvI vy gy t) == mvI vy gy t && spI (mvI vz gz t) == mvI vz gz t)) = false := by simpa using fun a b c => fk ⟨a, b, c⟩
                have fk3 : ¬ spI (mvI vx gx t) = mvI vx gx t ∨ ¬ spI (mvI vy gy t) = mvI vy gy t ∨ ¬ spI (mvI vz gz t) = mvI vz gz t := by
                  by_cases a : spI (mvI vx gx t) = mvI vx gx t
                  · by_cases b : spI (mvI vy gy t) = mvI vy gy t
                    · exact .inr (.inr fun c => fk ⟨a, b, c⟩)
                    · exact .inr (.inl b)
                  · exact .inl a
                have fk2 : (mvI vx gx t == spI (mvI vx gx t) && (mvI vy gy t == spI (mvI vy gy t) && mvI vz gz t == spI (mvI vz gz t))) = false := by simpa using fun a b c => fk ⟨a.symm, b.symm, c.symm⟩
                rw [if_pos ok, if_neg m0, if_neg fk]
                simp (maxSteps := 10000000) [Tryz.f17, rfallL, boCkS, hid, i1, i2, i3, j0, j1, j2, j3, hM, v0, v1, v2, w0, w1, w2, hrub, hct, g0, g1, g2, ht, mvI_is, mvI_in, ieq, bo, t0, t1, m0, fk]
                exact ⟨[4], none, told_keep (by simp) (by simp) (by simp) (by simp) (by simp [ClB]) (by simp [ClB]) (by simp [AV.ren, renL, glob]) (by simp [refs, refsL]) (by simp) (by simp)⟩
          · skip
            have e : chI ident kd r x y z p1 p2 p3 q0 q1 q2 q3 M vx vy vz wx wy wz rub 0 (fun _ => 0) t = boI ident kd r x y z 0 (fun _ => 0) p1 p2 p3 q0 q1 q2 q3 M vx vy vz wx wy wz rub := by unfold chI; rw [if_neg bo]
            rw [if_neg (by exact fun k => bo k.1), e]
            simp (maxSteps := 10000000) [Tryz.f17, boCkS, hid, i1, i2, i3, j0, j1, j2, j3, hM, v0, v1, v2, w0, w1, w2, hrub, hct, bo]
            exact ⟨[], none, told_none (by simp) (by simp) (by simp [refs, refsL]) (by simp)⟩
        · refine ⟨_, _, _, hlaid, ?_⟩
          have hct := eq_true hsh
          by_cases bo : boI ident kd r x y z n f p1 p2 p3 q0 q1 q2 q3 M vx vy vz wx wy wz rub = 0
          · by_cases t0 : t < 0
            · have e : chI ident kd r x y z p1 p2 p3 q0 q1 q2 q3 M vx vy vz wx wy wz rub n f t = 2 := by unfold chI; rw [if_pos bo, if_pos (by omega)]
              rw [if_neg (by omega), e]
              simp (maxSteps := 10000000) [Tryz.f17, boCkS, hid, i1, i2, i3, j0, j1, j2, j3, hM, v0, v1, v2, w0, w1, w2, hrub, hct, hE, bo, t0]
              exact ⟨[], none, told_none (by simp) (by simp) (by simp [refs, refsL]) (by simp) (by simp [hr'])⟩
            by_cases t1 : 4294967296 < t
            · have e : chI ident kd r x y z p1 p2 p3 q0 q1 q2 q3 M vx vy vz wx wy wz rub n f t = 2 := by unfold chI; rw [if_pos bo, if_pos (by omega)]
              rw [if_neg (by omega), e]
              simp (maxSteps := 10000000) [Tryz.f17, boCkS, hid, i1, i2, i3, j0, j1, j2, j3, hM, v0, v1, v2, w0, w1, w2, hrub, hct, hE, bo, t0, t1]
              exact ⟨[], none, told_none (by simp) (by simp) (by simp [refs, refsL]) (by simp) (by simp [hr'])⟩
            have ok : boI ident kd r x y z n f p1 p2 p3 q0 q1 q2 q3 M vx vy vz wx wy wz rub = 0 ∧ 0 ≤ t ∧ t ≤ 4294967296 := ⟨bo, by omega, by omega⟩
            
            by_cases m0 : M = 0
            · subst m0
              rw [if_pos ok, if_pos rfl]
              simp (maxSteps := 10000000) [Tryz.f17, boCkS, hid, i1, i2, i3, j0, j1, j2, j3, hM, v0, v1, v2, w0, w1, w2, hrub, hct, hE, bo, t0, t1]
              exact ⟨[], none, told_keep (by simp) (by simp) (by simp) (by simp) (by simp) (by simp) (by simp [AV.ren, renL, glob]) (by simp [refs, refsL]) (by simp) (by simp [hr'])⟩
            · by_cases fk : spI (mvI vx gx t) = mvI vx gx t ∧ spI (mvI vy gy t) = mvI vy gy t ∧ spI (mvI vz gz t) = mvI vz gz t
              · have fe := fk
                obtain ⟨k0, k1, k2⟩ := fk
                rw [if_pos ok, if_neg m0, if_pos fe]
                simp (maxSteps := 10000000) [Tryz.f17, boCkS, hid, i1, i2, i3, j0, j1, j2, j3, hM, v0, v1, v2, w0, w1, w2, hrub, hct, g0, g1, g2, ht, hE, mvI_is, mvI_in, ieq, bo, t0, t1, m0, k0, k1, k2]
                exact ⟨[], none, told_keep (by simp) (by simp) (by simp) (by simp) (by simp) (by simp) (by simp [AV.ren, renL, glob]) (by simp [refs, refsL]) (by simp) (by simp [hr'])⟩
              · have fk' : (spI (mvI vx gx t) == mvI vx gx t && (spI (mvI vy gy t) == mvI vy gy t && spI (mvI vz gz t) == mvI vz gz t)) = false := by simpa using fun a b c => fk ⟨a, b, c⟩
                have fk3 : ¬ spI (mvI vx gx t) = mvI vx gx t ∨ ¬ spI (mvI vy gy t) = mvI vy gy t ∨ ¬ spI (mvI vz gz t) = mvI vz gz t := by
                  by_cases a : spI (mvI vx gx t) = mvI vx gx t
                  · by_cases b : spI (mvI vy gy t) = mvI vy gy t
                    · exact .inr (.inr fun c => fk ⟨a, b, c⟩)
                    · exact .inr (.inl b)
                  · exact .inl a
                have fk2 : (mvI vx gx t == spI (mvI vx gx t) && (mvI vy gy t == spI (mvI vy gy t) && mvI vz gz t == spI (mvI vz gz t))) = false := by simpa using fun a b c => fk ⟨a.symm, b.symm, c.symm⟩
                rw [if_pos ok, if_neg m0, if_neg fk]
                simp (maxSteps := 10000000) [Tryz.f17, rfallL, boCkS, hid, i1, i2, i3, j0, j1, j2, j3, hM, v0, v1, v2, w0, w1, w2, hrub, hct, g0, g1, g2, ht, hE, mvI_is, mvI_in, ieq, bo, t0, t1, m0, fk]
                exact ⟨[5], none, told_keep (by simp) (by simp) (by simp) (by simp) (by simp [ClB]) (by simp [ClB]) (by simp [AV.ren, renL, glob]) (by simp [refs, refsL]) (by simp) (by simp [hr'])⟩
          · skip
            have e : chI ident kd r x y z p1 p2 p3 q0 q1 q2 q3 M vx vy vz wx wy wz rub n f t = boI ident kd r x y z n f p1 p2 p3 q0 q1 q2 q3 M vx vy vz wx wy wz rub := by unfold chI; rw [if_neg bo]
            rw [if_neg (by exact fun k => bo k.1), e]
            simp (maxSteps := 10000000) [Tryz.f17, boCkS, hid, i1, i2, i3, j0, j1, j2, j3, hM, v0, v1, v2, w0, w1, w2, hrub, hct, hE, bo]
            exact ⟨[], none, told_none (by simp) (by simp) (by simp [refs, refsL]) (by simp) (by simp [hr'])⟩
      · simp [*] at h
    · simp [*] at h
  · simp at h
end Go.X
