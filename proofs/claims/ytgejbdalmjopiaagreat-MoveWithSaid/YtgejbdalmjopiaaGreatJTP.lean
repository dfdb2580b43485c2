/- A body with other speeds. -/
import Derived.Test.YtgejbdalmjopiaaGreatJTL
namespace Go.X
open Go.Proofs
attribute [local irreducible] Good
def lawWithL (i : Nat) : Option DM := if i = 5 then some (.dag #[(0, [(0, 1), (1, 2)]), (1, [(1, 3)]), (2, [(0, 3)]), (3, [(2, 4)]), (7, [(3, 5)]), (15, [(4, 6)]), (31, [(5, 7), (6, 8), (8, 9), (11, 10)]), (63, [(6, 11), (8, 12), (11, 13)]), (95, [(5, 11), (7, 14), (8, 15), (11, 16)]), (287, [(5, 12), (6, 15), (9, 17), (11, 18)]), (2079, [(5, 13), (6, 16), (8, 18)]), (127, [(7, 19), (8, 20), (11, 21)]), (319, [(6, 20), (9, 22), (11, 23)]), (2111, [(6, 21), (8, 23)]), (223, [(5, 19), (8, 24), (11, 25)]), (351, [(5, 20), (7, 24), (9, 26), (11, 27)]), (2143, [(5, 21), (7, 25), (8, 27)]), (799, [(5, 22), (6, 26), (11, 28)]), (2335, [(5, 23), (6, 27), (9, 28)]), (255, [(8, 29), (11, 30)]), (383, [(7, 29), (9, 31), (11, 32)]), (2175, [(7, 30), (8, 32)]), (831, [(6, 31), (11, 33)]), (2367, [(6, 32), (9, 33)]), (479, [(5, 29), (9, 34), (11, 35)]), (2271, [(5, 30), (8, 35)]), (863, [(5, 31), (7, 34), (11, 36)]), (2399, [(5, 32), (7, 35), (9, 36)]), (2847, [(5, 33), (6, 36)]), (511, [(9, 37), (11, 38)]), (2303, [(8, 38)]), (895, [(7, 37), (11, 39)]), (2431, [(7, 38), (9, 39)]), (2879, [(6, 39)]), (991, [(5, 37), (11, 40)]), (2527, [(5, 38), (9, 40)]), (2911, [(5, 39), (7, 40)]), (1023, [(10, 41), (11, 42)]), (2559, [(9, 42)]), (2943, [(7, 42)]), (3039, [(5, 42)]), (2047, [(11, 43)]), (3071, [(10, 43)]), (4095, [(12, 44)]), (8191, [(13, 45)]), (16383, [(14, 46)]), (32767, [(15, 47)]), (65535, [(16, 48), (17, 49)]), (131071, [(17, 50)]), (196607, [(16, 50)]), (262143, [(18, 51)]), (524287, [(19, 52)]), (1048575, [(20, 53)]), (2097151, [])]) else none
noncomputable def lawWith24S : Sum := fun args env _ => match args with
  | [.agg [.int .i64 ident, .int .i64 kd, .int .i64 r, .int .i64 x, .int .i64 y, .int .i64 z, l, .int .i64 p1, .int .i64 p2, .int .i64 p3, .int .i64 q0, .int .i64 q1, .int .i64 q2, .int .i64 q3, .int .i64 M, .int .i64 vx, .int .i64 vy, .int .i64 vz, .int .i64 wx, .int .i64 wy, .int .i64 wz, .int .i64 rub], .agg [.int .i64 gx, .int .i64 gy, .int .i64 gz], .agg [.int .i64 hx, .int .i64 hy, .int .i64 hz], .int .i64 t] => match listE env l with
    | some (n, f) => open Classical in if (InI ident ∧ (InI p1 ∧ InI p2 ∧ InI p3 ∧ InI q0 ∧ InI q1 ∧ InI q2 ∧ InI q3) ∧ (InI M ∧ (InI vx ∧ InI vy ∧ InI vz) ∧ (InI wx ∧ InI wy ∧ InI wz)) ∧ InI rub) ∧ LwP kd r x y z n f ∧ InI gx ∧ InI gy ∧ InI gz ∧ InI hx ∧ InI hy ∧ InI hz ∧ InI t then .val (.bool true) [] [] else .fail
    | none => .fail
  | _ => .fail
set_option maxHeartbeats 400000000 in
set_option maxRecDepth 100000 in
theorem lawWith24_ok : SumOk Tryz.prog 7 lawWith24S := by
  refine sum_read (L := lawWithL) (n := 1) (S := stOf [(11, boCkS), (15, fallS), (18, goS), (21, withS), (13, boSameS), (8, pureS awake24S)]) drawS Tryz.T_ok (stOf_ok (by simp [boCk_ok, fall_ok, go_ok, with_ok, boSame_ok, awake24_ok])) Tryz.func7 rfl (by kernel_rfl) (by kernel_rfl) ?_
  intro args env nxt h
  unfold lawWith24S at h ⊢
  split at h
  · rename_i ident kd r x y z l p1 p2 p3 q0 q1 q2 q3 M vx vy vz wx wy wz rub gx gy gz hx hy hz t
    split at h
    · rename_i n f hl
      split at h
      · rename_i hc
        simp only [if_pos hc]
        obtain ⟨⟨hid, ⟨i1, i2, i3, j0, j1, j2, j3⟩, ⟨hM, ⟨v0, v1, v2⟩, w0, w1, w2⟩, hrub⟩, hlw, g0, g1, g2, h0, h1, h2, ht⟩ := id hc
        rcases laid_shape (fun l => [.agg [.int .i64 ident, .int .i64 kd, .int .i64 r, .int .i64 x, .int .i64 y, .int .i64 z, l, .int .i64 p1, .int .i64 p2, .int .i64 p3, .int .i64 q0, .int .i64 q1, .int .i64 q2, .int .i64 q3, .int .i64 M, .int .i64 vx, .int .i64 vy, .int .i64 vz, .int .i64 wx, .int .i64 wy, .int .i64 wz, .int .i64 rub], .agg [.int .i64 gx, .int .i64 gy, .int .i64 gz], .agg [.int .i64 hx, .int .i64 hy, .int .i64 hz], .int .i64 t]) hl (fun _ _ => rfl) (fun l => by simp) with ⟨rfl, rfl, rfl, hlaid⟩ | ⟨p, o1, c, items, ty, rfl, hlaid, hnc, hr', -, hE, hE2, hload⟩
        · refine ⟨_, _, _, .bool true, hlaid, rfl, rfl, rfl, ?_⟩
          have sh := hlw.sh (by decide)
          have hct := eq_true sh
          have h7 : 0 ≤ 256 := by omega
          obtain ⟨v, hv⟩ : ∃ v, boI ident kd r x y z 0 (fun _ => 0) p1 p2 p3 q0 q1 q2 q3 M vx vy vz wx wy wz rub = v := ⟨_, rfl⟩
          by_cases bo : v = 0
          · subst bo
            obtain ⟨hid2, th, fi, hr⟩ := bo_parts hv
            obtain ⟨⟨s0, s1, s2⟩, s3, s4, s5⟩ := fine_sp fi
            by_cases m0 : M = 0
            · subst m0
              by_cases t0 : t < 0
              · simp (maxSteps := 10000000) [Tryz.f7, lawWithL, withS, copyR, boCkS, boSameS, BoEq_same, spI_sp, spI_InI, hct, h7, hid, i1, i2, i3, j0, j1, j2, j3, hM, v0, v1, v2, w0, w1, w2, hrub, g0, g1, g2, h0, h1, h2, hv, s0, s1, s2, s3, s4, s5, t0]
              · by_cases t1 : 4294967296 < t
                · simp (maxSteps := 10000000) [Tryz.f7, lawWithL, withS, copyR, boCkS, boSameS, BoEq_same, spI_sp, spI_InI, hct, h7, hid, i1, i2, i3, j0, j1, j2, j3, hM, v0, v1, v2, w0, w1, w2, hrub, g0, g1, g2, h0, h1, h2, hv, s0, s1, s2, s3, s4, s5, t0, t1]
                · have t0' : 0 ≤ t := by omega
                  have t1' : t ≤ 4294967296 := by omega
                  simp (maxSteps := 10000000) [Tryz.f7, lawWithL, fallS, goS, withS, copyR, boCkS, boSameS, BoEq_same, spI_sp, spI_InI, hct, h7, hid, i1, i2, i3, j0, j1, j2, j3, hM, v0, v1, v2, w0, w1, w2, hrub, g0, g1, g2, h0, h1, h2, ht, hv, s0, s1, s2, s3, s4, s5, t0, t1, t0', t1']
            · have mb : (M != 0) = true := by simpa using m0
              have hbx : boI ident kd r x y z 0 (fun _ => 0) p1 p2 p3 q0 q1 q2 q3 M (spI gx) (spI gy) (spI gz) (spI hx) (spI hy) (spI hz) rub = 0 := bo_of hid2 th ⟨fine_of m0 fi ⟨spI_sp, spI_sp, spI_sp⟩ ⟨spI_sp, spI_sp, spI_sp⟩, hr⟩
              simp (maxSteps := 10000000) [Tryz.f7, lawWithL, withS, copyR, boCkS, boSameS, BoEq_same, spI_sp, spI_InI, hct, h7, hid, i1, i2, i3, j0, j1, j2, j3, hM, v0, v1, v2, w0, w1, w2, hrub, g0, g1, g2, h0, h1, h2, hv, s0, s1, s2, s3, s4, s5, mb, hbx]
          · have bob : (v != 0) = true := by simpa using bo
            simp (maxSteps := 10000000) [Tryz.f7, boCkS, hct, hid, i1, i2, i3, j0, j1, j2, j3, hM, v0, v1, v2, w0, w1, w2, hrub, hv, bob]
        · refine ⟨_, _, _, .bool true, hlaid, rfl, rfl, rfl, ?_⟩
          by_cases hn : (100 : Int) < n
          · simp (maxSteps := 10000000) [Tryz.f7, hn]
          · have sh := hlw.sh hn
            have hct := eq_true sh
            have h7 : n ≤ 256 := by omega
            obtain ⟨v, hv⟩ : ∃ v, boI ident kd r x y z n f p1 p2 p3 q0 q1 q2 q3 M vx vy vz wx wy wz rub = v := ⟨_, rfl⟩
            by_cases bo : v = 0
            · subst bo
              obtain ⟨hid2, th, fi, hr⟩ := bo_parts hv
              obtain ⟨⟨s0, s1, s2⟩, s3, s4, s5⟩ := fine_sp fi
              by_cases m0 : M = 0
              · subst m0
                by_cases t0 : t < 0
                · simp (maxSteps := 10000000) [Tryz.f7, lawWithL, withS, copyR, boCkS, boSameS, BoEq_same, BoEq_cut, cut_cut, sh_cut sh, spI_sp, spI_InI, hct, h7, hid, i1, i2, i3, j0, j1, j2, j3, hM, v0, v1, v2, w0, w1, w2, hrub, g0, g1, g2, h0, h1, h2, hE, hv, s0, s1, s2, s3, s4, s5, t0, hn]
                · by_cases t1 : 4294967296 < t
                  · simp (maxSteps := 10000000) [Tryz.f7, lawWithL, withS, copyR, boCkS, boSameS, BoEq_same, BoEq_cut, cut_cut, sh_cut sh, spI_sp, spI_InI, hct, h7, hid, i1, i2, i3, j0, j1, j2, j3, hM, v0, v1, v2, w0, w1, w2, hrub, g0, g1, g2, h0, h1, h2, hE, hv, s0, s1, s2, s3, s4, s5, t0, t1, hn]
                  · have t0' : 0 ≤ t := by omega
                    have t1' : t ≤ 4294967296 := by omega
                    simp (maxSteps := 10000000) [Tryz.f7, lawWithL, fallS, goS, withS, copyR, boCkS, boSameS, BoEq_same, BoEq_cut, cut_cut, sh_cut sh, spI_sp, spI_InI, hct, h7, hid, i1, i2, i3, j0, j1, j2, j3, hM, v0, v1, v2, w0, w1, w2, hrub, g0, g1, g2, h0, h1, h2, ht, hE, hv, s0, s1, s2, s3, s4, s5, t0, t1, t0', t1', hn]
              · have mb : (M != 0) = true := by simpa using m0
                have hbx : boI ident kd r x y z n f p1 p2 p3 q0 q1 q2 q3 M (spI gx) (spI gy) (spI gz) (spI hx) (spI hy) (spI hz) rub = 0 := bo_of hid2 th ⟨fine_of m0 fi ⟨spI_sp, spI_sp, spI_sp⟩ ⟨spI_sp, spI_sp, spI_sp⟩, hr⟩
                simp (maxSteps := 10000000) [Tryz.f7, lawWithL, withS, copyR, boCkS, boSameS, BoEq_same, BoEq_cut, bo_cut, cut_cut, sh_cut sh, spI_sp, spI_InI, hct, h7, hid, i1, i2, i3, j0, j1, j2, j3, hM, v0, v1, v2, w0, w1, w2, hrub, g0, g1, g2, h0, h1, h2, hE, hv, s0, s1, s2, s3, s4, s5, mb, hbx, hn]
            · have bob : (v != 0) = true := by simpa using bo
              simp (maxSteps := 10000000) [Tryz.f7, boCkS, hct, hid, i1, i2, i3, j0, j1, j2, j3, hM, v0, v1, v2, w0, w1, w2, hrub, hE, hv, bob, hn]
      · simp [*] at h
    · simp [*] at h
  · simp at h
end Go.X
