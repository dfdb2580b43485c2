/- Any body that falls: a body with a list. -/
import Derived.Test.YtgejbdalmjopiaaGreatJTN0
namespace Go.X
open Go.Proofs
attribute [local irreducible] Good
set_option maxHeartbeats 400000000 in
set_option maxRecDepth 100000 in
theorem lawFall24_sl2 {ident kd r x y z p1 p2 p3 q0 q1 q2 q3 M vx vy vz wx wy wz rub gx gy gz hx hy hz t : Int} {n o1 c : Nat} {f : Nat → Int} {items : List AV} {ty : TypeId} (hc : (InI ident ∧ (InI p1 ∧ InI p2 ∧ InI p3 ∧ InI q0 ∧ InI q1 ∧ InI q2 ∧ InI q3) ∧ (InI M ∧ (InI vx ∧ InI vy ∧ InI vz) ∧ (InI wx ∧ InI wy ∧ InI wz)) ∧ InI rub) ∧ LwP kd r x y z n f ∧ InI gx ∧ InI gy ∧ InI gz ∧ InI hx ∧ InI hy ∧ InI hz ∧ InI t)
    (hE : ∀ (ts : List AV) (x : List Blk) (df : List (FuncId × List AV)), listE (St.mem ⟨ts, (⟨items, ty⟩ : Blk) :: x, df⟩) (.slice 0 o1 n c) = some (n, f))
    (_hE2 : ∀ (ts : List AV) (x : List Blk) (df : List (FuncId × List AV)) (l : List Nat), 0 ∈ l → listE (envOf (St.mem ⟨ts, (⟨items, ty⟩ : Blk) :: x, df⟩) l) (.slice 0 o1 n c) = some (n, f)) (hn : ¬ (100 : Int) < n) (ok : boI ident kd r x y z n f p1 p2 p3 q0 q1 q2 q3 M vx vy vz wx wy wz rub = 0 ∧ 0 ≤ t ∧ t ≤ 4294967296) (m0 : ¬ M = 0) :
    lawFall24G lawFallL 1 [.agg [.int .i64 ident, .int .i64 kd, .int .i64 r, .int .i64 x, .int .i64 y, .int .i64 z, .slice 0 o1 n c, .int .i64 p1, .int .i64 p2, .int .i64 p3, .int .i64 q0, .int .i64 q1, .int .i64 q2, .int .i64 q3, .int .i64 M, .int .i64 vx, .int .i64 vy, .int .i64 vz, .int .i64 wx, .int .i64 wy, .int .i64 wz, .int .i64 rub], .agg [.int .i64 gx, .int .i64 gy, .int .i64 gz], .agg [.int .i64 hx, .int .i64 hy, .int .i64 hz], .int .i64 t] [⟨items, ty⟩] := by
  obtain ⟨⟨hid, ⟨i1, i2, i3, j0, j1, j2, j3⟩, ⟨hM, ⟨v0, v1, v2⟩, w0, w1, w2⟩, hrub⟩, hlw, g0, g1, g2, h0, h1, h2, ht⟩ := id hc
  unfold lawFall24G
  have hct := eq_true (hlw.sh hn)
  have h7 : n ≤ 256 := by omega
  have okt := eq_true ok
  obtain ⟨-, th, -, -⟩ := bo_parts ok.1
  obtain ⟨pl, tt, -⟩ := th_parts th
  obtain ⟨P1, P2, P3, Q0, Q1, Q2, Q3, cl, -, -, -, -, hp⟩ := pm_is ⟨i1, i2, i3, j0, j1, j2, j3, v0, v1, v2, w0, w1, w2, ht⟩ pl tt
  by_cases fk : spI (mvI vx gx t) = mvI vx gx t ∧ spI (mvI vy gy t) = mvI vy gy t ∧ spI (mvI vz gz t) = mvI vz gz t
  · have fkt := eq_true fk
    cases cl with
    | true => simp (maxSteps := 10000000) [lawFall24Body, lawFall24ST, Tryz.f5, lawFallL, fallS, rfallS, goS, rgoS, withS, rwithS, copyR, boSameS, sameClS, clB_ex, BoEq_cut, hct, h7, hid, i1, i2, i3, j0, j1, j2, j3, hM, v0, v1, v2, w0, w1, w2, hrub, g0, g1, g2, h0, h1, h2, ht, hE, okt, m0, hp, fkt, hn]
    | false => simp (maxSteps := 10000000) [lawFall24Body, lawFall24ST, Tryz.f5, lawFallL, fallS, rfallS, goS, rgoS, withS, rwithS, copyR, boSameS, sameClS, BoEq_cut, hct, h7, hid, i1, i2, i3, j0, j1, j2, j3, hM, v0, v1, v2, w0, w1, w2, hrub, g0, g1, g2, h0, h1, h2, ht, hE, okt, m0, hp, fkt, hn]
  · have fkt := eq_false fk
    cases cl with
    | true => simp (maxSteps := 10000000) [lawFall24Body, lawFall24ST, Tryz.f5, lawFallL, fallS, rfallS, goS, rgoS, withS, rwithS, copyR, boSameS, sameClS, clB_ex, BoEq_cut, hct, h7, hid, i1, i2, i3, j0, j1, j2, j3, hM, v0, v1, v2, w0, w1, w2, hrub, g0, g1, g2, h0, h1, h2, ht, hE, okt, m0, hp, fkt, hn]
    | false => simp (maxSteps := 10000000) [lawFall24Body, lawFall24ST, Tryz.f5, lawFallL, fallS, rfallS, goS, rgoS, withS, rwithS, copyR, boSameS, sameClS, clB_ex, BoEq_cut, hct, h7, hid, i1, i2, i3, j0, j1, j2, j3, hM, v0, v1, v2, w0, w1, w2, hrub, g0, g1, g2, h0, h1, h2, ht, hE, okt, m0, hp, fkt, hn]
end Go.X
