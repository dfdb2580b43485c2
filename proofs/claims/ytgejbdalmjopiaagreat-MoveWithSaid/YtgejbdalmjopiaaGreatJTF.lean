/- A body and a time: may they be? -/
import Derived.Test.YtgejbdalmjopiaaGreatJTE
namespace Go.X
open Go.Proofs
attribute [local irreducible] Good
set_option maxHeartbeats 400000000 in
set_option maxRecDepth 100000 in
theorem ch_ok : SumOk Tryz.prog 38 chS := by
  refine sum_read (L := fun _ => none) (n := 1) (S := stOf [(11, boCkS)]) drawS Tryz.T_ok (stOf_ok (by simp [boCk_ok])) Tryz.func38 rfl (by kernel_rfl) (by kernel_rfl) ?_
  intro args env nxt h
  unfold chS at h ⊢
  split at h
  · rename_i ident kd r x y z l p1 p2 p3 q0 q1 q2 q3 M vx vy vz wx wy wz rub t
    split at h
    · rename_i n f hl
      split at h
      · rename_i hc
        simp only [if_pos hc]
        obtain ⟨⟨hid, ⟨i1, i2, i3, j0, j1, j2, j3⟩, ⟨hM, ⟨v0, v1, v2⟩, w0, w1, w2⟩, hrub⟩, hsh, ht⟩ := id hc
        rcases laid_shape (fun l => [.agg [.int .i64 ident, .int .i64 kd, .int .i64 r, .int .i64 x, .int .i64 y, .int .i64 z, l, .int .i64 p1, .int .i64 p2, .int .i64 p3, .int .i64 q0, .int .i64 q1, .int .i64 q2, .int .i64 q3, .int .i64 M, .int .i64 vx, .int .i64 vy, .int .i64 vz, .int .i64 wx, .int .i64 wy, .int .i64 wz, .int .i64 rub], .int .i64 t]) hl (fun _ _ => rfl) (fun l => by simp) with ⟨rfl, rfl, rfl, hlaid⟩ | ⟨p, o1, c, items, ty, rfl, hlaid, hnc, hr', ⟨o, F, hrow, hf⟩, hE, hE2, hload⟩
        · refine ⟨_, _, _, (.int .i64 (chI ident kd r x y z p1 p2 p3 q0 q1 q2 q3 M vx vy vz wx wy wz rub 0 (fun _ => 0) t)), hlaid, rfl, by first | rfl | (split <;> rfl), by first | rfl | (split <;> rfl), ?_⟩
          have hct := eq_true hsh
          by_cases bo : boI ident kd r x y z 0 (fun _ => 0) p1 p2 p3 q0 q1 q2 q3 M vx vy vz wx wy wz rub = 0
          · by_cases t0 : t < 0
            · have e : chI ident kd r x y z p1 p2 p3 q0 q1 q2 q3 M vx vy vz wx wy wz rub 0 (fun _ => 0) t = 2 := by unfold chI; rw [if_pos bo, if_pos (.inl t0)]
              rw [e]
              simp (maxSteps := 10000000) [Tryz.f38, boCkS, hct, hid, i1, i2, i3, j0, j1, j2, j3, hM, v0, v1, v2, w0, w1, w2, hrub, bo, t0]
            · by_cases t1 : 4294967296 < t
              · have e : chI ident kd r x y z p1 p2 p3 q0 q1 q2 q3 M vx vy vz wx wy wz rub 0 (fun _ => 0) t = 2 := by unfold chI; rw [if_pos bo, if_pos (.inr t1)]
                rw [e]
                simp (maxSteps := 10000000) [Tryz.f38, boCkS, hct, hid, i1, i2, i3, j0, j1, j2, j3, hM, v0, v1, v2, w0, w1, w2, hrub, bo, t0, t1]
              · have e : chI ident kd r x y z p1 p2 p3 q0 q1 q2 q3 M vx vy vz wx wy wz rub 0 (fun _ => 0) t = 0 := by unfold chI; rw [if_pos bo, if_neg (by omega)]
                rw [e]
                simp (maxSteps := 10000000) [Tryz.f38, boCkS, hct, hid, i1, i2, i3, j0, j1, j2, j3, hM, v0, v1, v2, w0, w1, w2, hrub, bo, t0, t1]
          · have e : chI ident kd r x y z p1 p2 p3 q0 q1 q2 q3 M vx vy vz wx wy wz rub 0 (fun _ => 0) t = boI ident kd r x y z 0 (fun _ => 0) p1 p2 p3 q0 q1 q2 q3 M vx vy vz wx wy wz rub := by unfold chI; rw [if_neg bo]
            rw [e]
            simp (maxSteps := 10000000) [Tryz.f38, boCkS, hct, hid, i1, i2, i3, j0, j1, j2, j3, hM, v0, v1, v2, w0, w1, w2, hrub, bo]
        · refine ⟨_, _, _, (.int .i64 (chI ident kd r x y z p1 p2 p3 q0 q1 q2 q3 M vx vy vz wx wy wz rub n f t)), hlaid, rfl, by first | rfl | (split <;> rfl), by first | rfl | (split <;> rfl), ?_⟩
          have hct := eq_true hsh
          by_cases bo : boI ident kd r x y z n f p1 p2 p3 q0 q1 q2 q3 M vx vy vz wx wy wz rub = 0
          · by_cases t0 : t < 0
            · have e : chI ident kd r x y z p1 p2 p3 q0 q1 q2 q3 M vx vy vz wx wy wz rub n f t = 2 := by unfold chI; rw [if_pos bo, if_pos (.inl t0)]
              rw [e]
              simp (maxSteps := 10000000) [Tryz.f38, boCkS, hct, hid, i1, i2, i3, j0, j1, j2, j3, hM, v0, v1, v2, w0, w1, w2, hrub, hE, bo, t0]
            · by_cases t1 : 4294967296 < t
              · have e : chI ident kd r x y z p1 p2 p3 q0 q1 q2 q3 M vx vy vz wx wy wz rub n f t = 2 := by unfold chI; rw [if_pos bo, if_pos (.inr t1)]
                rw [e]
                simp (maxSteps := 10000000) [Tryz.f38, boCkS, hct, hid, i1, i2, i3, j0, j1, j2, j3, hM, v0, v1, v2, w0, w1, w2, hrub, hE, bo, t0, t1]
              · have e : chI ident kd r x y z p1 p2 p3 q0 q1 q2 q3 M vx vy vz wx wy wz rub n f t = 0 := by unfold chI; rw [if_pos bo, if_neg (by omega)]
                rw [e]
                simp (maxSteps := 10000000) [Tryz.f38, boCkS, hct, hid, i1, i2, i3, j0, j1, j2, j3, hM, v0, v1, v2, w0, w1, w2, hrub, hE, bo, t0, t1]
          · have e : chI ident kd r x y z p1 p2 p3 q0 q1 q2 q3 M vx vy vz wx wy wz rub n f t = boI ident kd r x y z n f p1 p2 p3 q0 q1 q2 q3 M vx vy vz wx wy wz rub := by unfold chI; rw [if_neg bo]
            rw [e]
            simp (maxSteps := 10000000) [Tryz.f38, boCkS, hct, hid, i1, i2, i3, j0, j1, j2, j3, hM, v0, v1, v2, w0, w1, w2, hrub, hE, bo]
      · simp [*] at h
    · simp [*] at h
  · simp at h
set_option maxHeartbeats 400000000 in
set_option maxRecDepth 100000 in
theorem with_ok : SumOk Tryz.prog 21 withS := by
  refine sum_mem (L := fun i => if i = 2 then some (.quiet 5) else none) (n := 1) (S := stOf [(39, shCopyS), (41, pureS mvclS)]) drawS Tryz.T_ok (stOf_ok (by simp [shCopy_ok, mvcl_ok])) Tryz.func21 rfl (by kernel_rfl) (by kernel_rfl) ?_
  intro args env nxt h
  unfold withS at h ⊢
  split at h
  · rename_i ident kd r x y z l p1 p2 p3 q0 q1 q2 q3 M vx vy vz wx wy wz rub gx gy gz hx hy hz
    split at h
    · rename_i n f hl
      split at h
      · rename_i hc
        simp only [if_pos hc]
        obtain ⟨⟨hid, ⟨i1, i2, i3, j0, j1, j2, j3⟩, ⟨hM, ⟨v0, v1, v2⟩, w0, w1, w2⟩, hrub⟩, hsh, g0, g1, g2, h0, h1, h2⟩ := id hc
        rcases laid_shape (fun l => [.agg [.int .i64 ident, .int .i64 kd, .int .i64 r, .int .i64 x, .int .i64 y, .int .i64 z, l, .int .i64 p1, .int .i64 p2, .int .i64 p3, .int .i64 q0, .int .i64 q1, .int .i64 q2, .int .i64 q3, .int .i64 M, .int .i64 vx, .int .i64 vy, .int .i64 vz, .int .i64 wx, .int .i64 wy, .int .i64 wz, .int .i64 rub], .agg [.int .i64 gx, .int .i64 gy, .int .i64 gz], .agg [.int .i64 hx, .int .i64 hy, .int .i64 hz]]) hl (fun _ _ => rfl) (fun l => by simp) with ⟨rfl, rfl, rfl, hlaid⟩ | ⟨p, o1, c, items, ty, rfl, hlaid, hnc, hr', ⟨o, F, hrow, hf⟩, hE, hE2, hload⟩
        · refine ⟨_, _, _, hlaid, ?_⟩
          have hn6 : 0 ≤ 1048576 := by have := hsh.2.2.2.2.2.1; omega
          simp (maxSteps := 10000000) [Tryz.f21, shCopyS, copyR, hn6, g0, g1, g2, h0, h1, h2]
          exact ⟨[], none, told_keep (by simp) (by simp) (by simp) (by simp) (by simp) (by simp) (by simp [AV.ren, renL]) (by simp [refs, refsL]) (by simp) (by simp)⟩
        · refine ⟨_, _, _, hlaid, ?_⟩
          rw [copyR_sl hl]
          have hn6 : n ≤ 1048576 := by have := hsh.2.2.2.2.2.1; omega
          simp (maxSteps := 10000000) [Tryz.f21, shCopyS, copyR, hn6, g0, g1, g2, h0, h1, h2, hE]
          intro k
          exact ⟨[5], none, .inr ⟨_, ⟨k, rfl⟩, told_keep (by simp) (by simp) (by simp) (by simp) (by simp) (by simp) (by simp [AV.ren, renL, glob]) (by simp [refs, refsL]) (by simp) (by simp [hr'])⟩⟩
      · simp [*] at h
    · simp [*] at h
  · simp at h
set_option maxHeartbeats 400000000 in
set_option maxRecDepth 100000 in
theorem rwith_ok : SumOk Tryz.prog 22 rwithS := by
  refine sum_mem (L := fun _ => none) (n := 1) (S := stOf [(35, pureS r24clS)]) drawS Tryz.T_ok (stOf_ok (by simp [r24cl_ok])) Tryz.func22 rfl (by kernel_rfl) (by kernel_rfl) ?_
  intro args env nxt h
  unfold rwithS at h ⊢
  split at h
  · rename_i ident kd r x y z l p1 p2 p3 q0 q1 q2 q3 M vx vy vz wx wy wz rub gx gy gz hx hy hz
    split at h
    · rename_i n f hl
      split at h
      · rename_i hc
        simp only [if_pos hc]
        obtain ⟨⟨hid, ⟨i1, i2, i3, j0, j1, j2, j3⟩, ⟨hM, ⟨v0, v1, v2⟩, w0, w1, w2⟩, hrub⟩, hsh, g0, g1, g2, h0, h1, h2⟩ := id hc
        rcases laid_shape (fun l => [.agg [.int .i64 ident, .int .i64 kd, .int .i64 r, .int .i64 x, .int .i64 y, .int .i64 z, l, .int .i64 p1, .int .i64 p2, .int .i64 p3, .int .i64 q0, .int .i64 q1, .int .i64 q2, .int .i64 q3, .int .i64 M, .int .i64 vx, .int .i64 vy, .int .i64 vz, .int .i64 wx, .int .i64 wy, .int .i64 wz, .int .i64 rub], .agg [.int .i64 gx, .int .i64 gy, .int .i64 gz], .agg [.int .i64 hx, .int .i64 hy, .int .i64 hz]]) hl (fun _ _ => rfl) (fun l => by simp) with ⟨rfl, rfl, rfl, hlaid⟩ | ⟨p, o1, c, items, ty, rfl, hlaid, hnc, hr', ⟨o, F, hrow, hf⟩, hE, hE2, hload⟩
        · refine ⟨_, _, _, hlaid, ?_⟩
          simp (maxSteps := 10000000) [Tryz.f22, g0, g1, g2, h0, h1, h2]
          exact ⟨[], none, told_keep (by simp) (by simp) (by simp) (by simp) (by simp) (by simp) (by simp [AV.ren, renL]) (by simp [refs, refsL]) (by simp) (by simp)⟩
        · refine ⟨_, _, _, hlaid, ?_⟩
          simp (maxSteps := 10000000) [Tryz.f22, g0, g1, g2, h0, h1, h2]
          exact ⟨[], none, told_keep (by simp) (by simp) (by simp) (by simp) (by simp) (by simp) (by simp [AV.ren, renL, glob]) (by simp [refs, refsL]) (by simp) (by simp [hr'])⟩
      · simp [*] at h
    · simp [*] at h
  · simp at h
end Go.X
