/- A body without speed and pull stays: a body without a list. -/
import Derived.Test.YtgejbdalmjopiaaGreatJTQ0
namespace Go.X
open Go.Proofs
attribute [local irreducible] Good
set_option maxHeartbeats 400000000 in
set_option maxRecDepth 100000 in
theorem lawStays24_nil {ident kd r x y z p1 p2 p3 q0 q1 q2 q3 M vx vy vz wx wy wz rub gx gy gz t : Int} (hc : (InI ident ∧ (InI p1 ∧ InI p2 ∧ InI p3 ∧ InI q0 ∧ InI q1 ∧ InI q2 ∧ InI q3) ∧ (InI M ∧ (InI vx ∧ InI vy ∧ InI vz) ∧ (InI wx ∧ InI wy ∧ InI wz)) ∧ InI rub) ∧ LwP kd r x y z 0 (fun _ => 0) ∧ InI gx ∧ InI gy ∧ InI gz ∧ InI t) :
    lawStays24G (fun _ => none) 0 [.agg [.int .i64 ident, .int .i64 kd, .int .i64 r, .int .i64 x, .int .i64 y, .int .i64 z, .nilslice, .int .i64 p1, .int .i64 p2, .int .i64 p3, .int .i64 q0, .int .i64 q1, .int .i64 q2, .int .i64 q3, .int .i64 M, .int .i64 vx, .int .i64 vy, .int .i64 vz, .int .i64 wx, .int .i64 wy, .int .i64 wz, .int .i64 rub], .agg [.int .i64 gx, .int .i64 gy, .int .i64 gz], .int .i64 t] [] := by
  obtain ⟨⟨hid, ⟨i1, i2, i3, j0, j1, j2, j3⟩, ⟨hM, ⟨v0, v1, v2⟩, w0, w1, w2⟩, hrub⟩, hlw, g0, g1, g2, ht⟩ := id hc
  unfold lawStays24G
  have sh := hlw.sh (by decide)
  have hct := eq_true sh
  have h7 : 0 ≤ 256 := by omega
  obtain ⟨v, hv⟩ : ∃ v, boI ident kd r x y z 0 (fun _ => 0) p1 p2 p3 q0 q1 q2 q3 M vx vy vz wx wy wz rub = v := ⟨_, rfl⟩
  by_cases bo : v = 0
  · subst bo
    obtain ⟨hid2, th, fi, hr⟩ := bo_parts hv
    obtain ⟨pl, tt, ck⟩ := th_parts th
    obtain ⟨⟨s0, s1, s2⟩, s3, s4, s5⟩ := fine_sp fi
    by_cases t0 : t < 0
    · have e : chI ident kd r x y z p1 p2 p3 q0 q1 q2 q3 M vx vy vz wx wy wz rub 0 (fun _ => 0) t = 2 := by unfold chI; rw [if_pos hv, if_pos (by omega)]
      have t0' : ¬ 0 ≤ t := by omega
      simp (maxSteps := 10000000) [lawStays24Body, lawStays24ST, Tryz.f6, fallS, goS, boCkS, hct, hid, i1, i2, i3, j0, j1, j2, j3, hM, v0, v1, v2, w0, w1, w2, hrub, g0, g1, g2, ht, hv, e, t0, t0']
    by_cases t1 : 4294967296 < t
    · have e : chI ident kd r x y z p1 p2 p3 q0 q1 q2 q3 M vx vy vz wx wy wz rub 0 (fun _ => 0) t = 2 := by unfold chI; rw [if_pos hv, if_pos (by omega)]
      have t1' : ¬ t ≤ 4294967296 := by omega
      simp (maxSteps := 10000000) [lawStays24Body, lawStays24ST, Tryz.f6, fallS, goS, boCkS, hct, hid, i1, i2, i3, j0, j1, j2, j3, hM, v0, v1, v2, w0, w1, w2, hrub, g0, g1, g2, ht, hv, e, t0, t1, t1']
    have t0' : 0 ≤ t := by omega
    have t1' : t ≤ 4294967296 := by omega
    by_cases m0 : M = 0
    · subst m0
      obtain ⟨⟨rfl, rfl, rfl⟩, rfl, rfl, rfl⟩ := fine_0 fi
      simp (maxSteps := 10000000) [lawStays24Body, lawStays24ST, Tryz.f6, fallS, goS, withS, copyR, boCkS, boSameS, BoEq_same, spI_0, hct, h7, hid, i1, i2, i3, j0, j1, j2, j3, hM, hrub, g0, g1, g2, ht, hv, t0', t1']
    · have mb : (M != 0) = true := by simpa using m0
      have hst : boI ident kd r x y z 0 (fun _ => 0) p1 p2 p3 q0 q1 q2 q3 M 0 0 0 0 0 0 rub = 0 := bo_of hid2 th ⟨fine_of m0 fi ⟨spI_0, spI_0, spI_0⟩ ⟨spI_0, spI_0, spI_0⟩, hr⟩
      have hx : boI ident kd r x y z 0 (fun _ => 0) p1 p2 p3 q0 q1 q2 q3 M (spI (mvI vx gx t)) (spI (mvI vy gy t)) (spI (mvI vz gz t)) wx wy wz rub = 0 := bo_of hid2 th ⟨fine_of m0 fi ⟨spI_sp, spI_sp, spI_sp⟩ ⟨s3, s4, s5⟩, hr⟩
      obtain ⟨P1, P2, P3, Q0, Q1, Q2, Q3, cl, ⟨I1, I2, I3, I4, I5, I6, I7⟩, pl2, tt2, -, hp⟩ := pm_is ⟨i1, i2, i3, j0, j1, j2, j3, v0, v1, v2, w0, w1, w2, ht⟩ pl tt
      have hy : boI ident kd r x y z 0 (fun _ => 0) P1 P2 P3 Q0 Q1 Q2 Q3 M vx vy vz wx wy wz rub = 0 := bo_of hid2 (th_of pl2 tt2 ck) ⟨fi, hr⟩
      have z0 : mvI 0 0 t = 0 := mvI_stays InI_zero (.inl rfl)
      have y0 : mvI vx gx 0 = vx := mvI_stays v0 (.inr rfl)
      have y1 : mvI vy gy 0 = vy := mvI_stays v1 (.inr rfl)
      have y2 : mvI vz gz 0 = vz := mvI_stays v2 (.inr rfl)
      have hp0 := pm_val (t := t) (vx := 0) (vy := 0) (vz := 0) (wx := 0) (wy := 0) (wz := 0) ⟨i1, i2, i3, j0, j1, j2, j3, InI_zero, InI_zero, InI_zero, InI_zero, InI_zero, InI_zero, ht⟩ pl tt (.inl ⟨rfl, rfl, rfl⟩) ⟨mvI_stays i1 (.inl rfl), mvI_stays i2 (.inl rfl), mvI_stays i3 (.inl rfl)⟩ pl
      have hp1 := pm_val (t := 0) (vx := vx) (vy := vy) (vz := vz) (wx := wx) (wy := wy) (wz := wz) ⟨i1, i2, i3, j0, j1, j2, j3, v0, v1, v2, w0, w1, w2, InI_zero⟩ pl tt (.inr rfl) ⟨mvI_stays i1 (.inr rfl), mvI_stays i2 (.inr rfl), mvI_stays i3 (.inr rfl)⟩ pl
      have ttt := eq_true tt
      by_cases fk : spI (mvI vx gx t) = mvI vx gx t ∧ spI (mvI vy gy t) = mvI vy gy t ∧ spI (mvI vz gz t) = mvI vz gz t
      · have fkt := eq_true fk
        cases cl with
        | true => simp (maxSteps := 10000000) [lawStays24Body, lawStays24ST, Tryz.f6, fallS, goS, withS, copyR, boCkS, boSameS, BoEq_same, spI_0, spI_InI, InI_zero, hct, h7, hid, i1, i2, i3, j0, j1, j2, j3, hM, v0, v1, v2, w0, w1, w2, hrub, g0, g1, g2, ht, hv, t0', t1', m0, mb, hst, hx, hy, hp, hp0, hp1, z0, y0, y1, y2, s0, s1, s2, fkt, ttt, I1, I2, I3, I4, I5, I6, I7]
        | false => simp (maxSteps := 10000000) [lawStays24Body, lawStays24ST, Tryz.f6, fallS, goS, withS, copyR, boCkS, boSameS, BoEq_same, spI_0, spI_InI, InI_zero, hct, h7, hid, i1, i2, i3, j0, j1, j2, j3, hM, v0, v1, v2, w0, w1, w2, hrub, g0, g1, g2, ht, hv, t0', t1', m0, mb, hst, hx, hy, hp, hp0, hp1, z0, y0, y1, y2, s0, s1, s2, fkt, ttt, I1, I2, I3, I4, I5, I6, I7]
      · have fkt := eq_false fk
        cases cl with
        | true => simp (maxSteps := 10000000) [lawStays24Body, lawStays24ST, Tryz.f6, fallS, goS, withS, copyR, boCkS, boSameS, BoEq_same, spI_0, spI_InI, InI_zero, hct, h7, hid, i1, i2, i3, j0, j1, j2, j3, hM, v0, v1, v2, w0, w1, w2, hrub, g0, g1, g2, ht, hv, t0', t1', m0, mb, hst, hx, hy, hp, hp0, hp1, z0, y0, y1, y2, s0, s1, s2, fkt, ttt, I1, I2, I3, I4, I5, I6, I7]
        | false => simp (maxSteps := 10000000) [lawStays24Body, lawStays24ST, Tryz.f6, fallS, goS, withS, copyR, boCkS, boSameS, BoEq_same, spI_0, spI_InI, InI_zero, hct, h7, hid, i1, i2, i3, j0, j1, j2, j3, hM, v0, v1, v2, w0, w1, w2, hrub, g0, g1, g2, ht, hv, t0', t1', m0, mb, hst, hx, hy, hp, hp0, hp1, z0, y0, y1, y2, s0, s1, s2, fkt, ttt, I1, I2, I3, I4, I5, I6, I7]
  · have bob : (v != 0) = true := by simpa using bo
    simp (maxSteps := 10000000) [lawStays24Body, lawStays24ST, Tryz.f6, boCkS, hct, hid, i1, i2, i3, j0, j1, j2, j3, hM, v0, v1, v2, w0, w1, w2, hrub, hv, bob]
end Go.X
