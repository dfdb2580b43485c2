/- A body that falls twice has the speed of one that falls once, with twice the pull. -/
import Derived.Test.YtgejbdalmjopiaaGreatJTL
namespace Go.X
open Go.Proofs
attribute [local irreducible] Good
theorem ch_ok0 {ident kd r x y z p1 p2 p3 q0 q1 q2 q3 M vx vy vz wx wy wz rub t : Int} {n : Nat} {f : Nat → Int} (h : chI ident kd r x y z p1 p2 p3 q0 q1 q2 q3 M vx vy vz wx wy wz rub n f t = 0) : boI ident kd r x y z n f p1 p2 p3 q0 q1 q2 q3 M vx vy vz wx wy wz rub = 0 ∧ 0 ≤ t ∧ t ≤ 4294967296 := by
  unfold chI at h
  split at h
  · rename_i b
    split at h
    · omega
    · exact ⟨b, by omega, by omega⟩
  · rename_i b; exact absurd h b
theorem zero_bo : boI 0 0 0 0 0 0 0 (fun _ => 0) 0 0 0 0 0 0 0 0 0 0 0 0 0 0 0 = 2 := by unfold boI; rw [if_pos (by decide)]
theorem zero_ch {t : Int} : chI 0 0 0 0 0 0 0 0 0 0 0 0 0 0 0 0 0 0 0 0 0 0 (fun _ => 0) t = 2 := by unfold chI; rw [zero_bo, if_neg (by decide)]
theorem zero_sh : ShP 0 0 0 0 0 0 (fun _ => 0) = True := eq_true ⟨by decide, by decide, by decide, by decide, by decide, by decide, fun j hj => by omega⟩
noncomputable def near24S : List AV → PR
  | [.int .i64 a, .int .i64 b] => open Classical in if (-1099511627776 ≤ a ∧ a ≤ 1099511627776) ∧ (-1099511627776 ≤ b ∧ b ≤ 1099511627776) ∧ a - b ≤ 2 ∧ b - a ≤ 2 then .val (.bool true) else .fail
  | _ => .fail
@[simp] theorem near24S_val {a b : Int} (h : (-1099511627776 ≤ a ∧ a ≤ 1099511627776) ∧ (-1099511627776 ≤ b ∧ b ≤ 1099511627776) ∧ a - b ≤ 2 ∧ b - a ≤ 2) : near24S [.int .i64 a, .int .i64 b] = .val (.bool true) := if_pos h
theorem near24_ok : SumOk Tryz.prog 16 (pureS near24S) := by
  refine sum_fn (L := fun _ => none) (n := 1) (S := stOf []) drawS Tryz.T_ok (stOf_ok (by simp)) Tryz.func16 rfl (by kernel_rfl) (by kernel_rfl) ?_
    (by intro args v h; unfold near24S at h; split at h <;> (try split at h) <;> simp at h)
  intro args v h
  unfold near24S at h
  split at h
  · rename_i a b
    split at h
    · rename_i hc
      obtain ⟨ha, hb, h1, h2⟩ := hc
      cases h
      refine ⟨by simp, by simp, by simp, ?_⟩
      have e1 : IntKind.i64.wrap (a - b) = a - b := wrap_i64_in (by omega) (by omega)
      have e2 : IntKind.i64.wrap (b - a) = b - a := wrap_i64_in (by omega) (by omega)
      simp [Tryz.f16, e1, e2, h1, h2]
    · simp at h
  · simp at h
theorem mvI_real {p v t : Int} (h : spI (mvI p v t) = mvI p v t) : mvI p v t = (p * 4294967296 + v * t) / 4294967296 := by
  have b := @spI_in (mvI p v t)
  rw [h] at b
  unfold mvI clampI at b ⊢
  split
  · rfl
  · rename_i n; rw [if_neg n] at b; split at b <;> omega
theorem near_two {p g t : Int} (h : spI (mvI p g t) = mvI p g t ∧ spI (mvI (spI (mvI p g t)) g t) = mvI (spI (mvI p g t)) g t ∧ spI (mvI p (2 * g) t) = mvI p (2 * g) t) :
    near24S [.int .i64 (spI (mvI (spI (mvI p g t)) g t)), .int .i64 (spI (mvI p (2 * g) t))] = .val (.bool true) := by
  obtain ⟨h1, h2, h3⟩ := h
  have b2 := @spI_in (mvI (spI (mvI p g t)) g t)
  have b3 := @spI_in (mvI p (2 * g) t)
  refine near24S_val ⟨b2, b3, ?_⟩
  rw [h2, h3, mvI_real h3]
  rw [mvI_real h2, h1, mvI_real h1]
  have e : 2 * g * t = 2 * (g * t) := by grind
  rw [e]
  generalize g * t = A
  omega
noncomputable def lawTwice24S : Sum := fun args env _ => match args with
  | [.agg [.int .i64 ident, .int .i64 kd, .int .i64 r, .int .i64 x, .int .i64 y, .int .i64 z, l, .int .i64 p1, .int .i64 p2, .int .i64 p3, .int .i64 q0, .int .i64 q1, .int .i64 q2, .int .i64 q3, .int .i64 M, .int .i64 vx, .int .i64 vy, .int .i64 vz, .int .i64 wx, .int .i64 wy, .int .i64 wz, .int .i64 rub], .agg [.int .i64 gx, .int .i64 gy, .int .i64 gz], .int .i64 t] => match listE env l with
    | some (n, f) => open Classical in if (InI ident ∧ (InI p1 ∧ InI p2 ∧ InI p3 ∧ InI q0 ∧ InI q1 ∧ InI q2 ∧ InI q3) ∧ (InI M ∧ (InI vx ∧ InI vy ∧ InI vz) ∧ (InI wx ∧ InI wy ∧ InI wz)) ∧ InI rub) ∧ LwP kd r x y z n f ∧ InI gx ∧ InI gy ∧ InI gz ∧ InI t then .val (.bool true) [] [] else .fail
    | none => .fail
  | _ => .fail
set_option maxHeartbeats 400000000 in
set_option maxRecDepth 100000 in
theorem lawTwice24_ok : SumOk Tryz.prog 4 lawTwice24S := by
  refine sum_read (L := fun _ => none) (n := 1) (S := stOf [(15, fallS), (16, pureS near24S), (8, pureS awake24S)]) drawS Tryz.T_ok (stOf_ok (by simp [fall_ok, near24_ok, awake24_ok])) Tryz.func4 rfl (by kernel_rfl) (by kernel_rfl) ?_
  intro args env nxt h
  unfold lawTwice24S at h ⊢
  split at h
  · rename_i ident kd r x y z l p1 p2 p3 q0 q1 q2 q3 M vx vy vz wx wy wz rub gx gy gz t
    split at h
    · rename_i n f hl
      split at h
      · rename_i hc
        simp only [if_pos hc]
        obtain ⟨⟨hid, ⟨i1, i2, i3, j0, j1, j2, j3⟩, ⟨hM, ⟨v0, v1, v2⟩, w0, w1, w2⟩, hrub⟩, hlw, g0, g1, g2, ht⟩ := id hc
        rcases laid_shape (fun l => [.agg [.int .i64 ident, .int .i64 kd, .int .i64 r, .int .i64 x, .int .i64 y, .int .i64 z, l, .int .i64 p1, .int .i64 p2, .int .i64 p3, .int .i64 q0, .int .i64 q1, .int .i64 q2, .int .i64 q3, .int .i64 M, .int .i64 vx, .int .i64 vy, .int .i64 vz, .int .i64 wx, .int .i64 wy, .int .i64 wz, .int .i64 rub], .agg [.int .i64 gx, .int .i64 gy, .int .i64 gz], .int .i64 t]) hl (fun _ _ => rfl) (fun l => by simp) with ⟨rfl, rfl, rfl, hlaid⟩ | ⟨p, o1, c, items, ty, rfl, hlaid, hnc, hr', -, hE, hE2, hload⟩
        · refine ⟨_, _, _, .bool true, hlaid, rfl, rfl, rfl, ?_⟩
          have sh := hlw.sh (by decide)
          have hct := eq_true sh
          by_cases d1 : 4398046511104 < max3 gx gy gz
          · simp (maxSteps := 10000000) [Tryz.f4, max3_is, d1]
          by_cases d2 : min3 gx gy gz < -4398046511104
          · simp (maxSteps := 10000000) [Tryz.f4, max3_is, min3_is, d1, d2]
          have gb : (-4398046511104 ≤ gx ∧ gx ≤ 4398046511104) ∧ (-4398046511104 ≤ gy ∧ gy ≤ 4398046511104) ∧ (-4398046511104 ≤ gz ∧ gz ≤ 4398046511104) := place_iff.2 ⟨d1, d2⟩
          have u0 : IntKind.i64.wrap (2 * gx) = 2 * gx := wrap_i64_in (by omega) (by omega)
          have u1 : IntKind.i64.wrap (2 * gy) = 2 * gy := wrap_i64_in (by omega) (by omega)
          have u2 : IntKind.i64.wrap (2 * gz) = 2 * gz := wrap_i64_in (by omega) (by omega)
          have k0 : InI (2 * gx) := by unfold InI; omega
          have k1 : InI (2 * gy) := by unfold InI; omega
          have k2 : InI (2 * gz) := by unfold InI; omega
          by_cases ok : boI ident kd r x y z 0 (fun _ => 0) p1 p2 p3 q0 q1 q2 q3 M vx vy vz wx wy wz rub = 0 ∧ 0 ≤ t ∧ t ≤ 4294967296
          · obtain ⟨bo, t0, t1⟩ := id ok
            obtain ⟨hid2, th, fi, hr⟩ := bo_parts bo
            obtain ⟨⟨s0, s1, s2⟩, s3, s4, s5⟩ := fine_sp fi
            by_cases m0 : M = 0
            · subst m0
              obtain ⟨⟨rfl, rfl, rfl⟩, rfl, rfl, rfl⟩ := fine_0 fi
              simp (maxSteps := 10000000) [Tryz.f4, fallS, copyR, hct, hid, i1, i2, i3, j0, j1, j2, j3, hM, hrub, g0, g1, g2, ht, max3_is, min3_is, d1, d2, u0, u1, u2, k0, k1, k2, bo, t0, t1]
            · have hx : boI ident kd r x y z 0 (fun _ => 0) p1 p2 p3 q0 q1 q2 q3 M (spI (mvI vx gx t)) (spI (mvI vy gy t)) (spI (mvI vz gz t)) wx wy wz rub = 0 := bo_of hid2 th ⟨fine_of m0 fi ⟨spI_sp, spI_sp, spI_sp⟩ ⟨s3, s4, s5⟩, hr⟩
              by_cases fk : spI (mvI vx gx t) = mvI vx gx t ∧ spI (mvI vy gy t) = mvI vy gy t ∧ spI (mvI vz gz t) = mvI vz gz t
              · have fk1 := eq_true fk
                by_cases f2 : spI (mvI (spI (mvI vx gx t)) gx t) = mvI (spI (mvI vx gx t)) gx t ∧ spI (mvI (spI (mvI vy gy t)) gy t) = mvI (spI (mvI vy gy t)) gy t ∧ spI (mvI (spI (mvI vz gz t)) gz t) = mvI (spI (mvI vz gz t)) gz t
                · have fk2 := eq_true f2
                  by_cases f3 : spI (mvI vx (2 * gx) t) = mvI vx (2 * gx) t ∧ spI (mvI vy (2 * gy) t) = mvI vy (2 * gy) t ∧ spI (mvI vz (2 * gz) t) = mvI vz (2 * gz) t
                  · have fk3 := eq_true f3
                    have n0 := near_two ⟨fk.1, f2.1, f3.1⟩
                    have n1 := near_two ⟨fk.2.1, f2.2.1, f3.2.1⟩
                    have n2 := near_two ⟨fk.2.2, f2.2.2, f3.2.2⟩
                    simp (maxSteps := 10000000) [Tryz.f4, fallS, copyR, spI_InI, hct, hid, i1, i2, i3, j0, j1, j2, j3, hM, v0, v1, v2, w0, w1, w2, hrub, g0, g1, g2, ht, max3_is, min3_is, d1, d2, u0, u1, u2, k0, k1, k2, bo, t0, t1, m0, hx, fk1, fk2, fk3, n0, n1, n2]
                  · have fk3 := eq_false f3
                    simp (maxSteps := 10000000) [Tryz.f4, fallS, copyR, spI_InI, hct, hid, i1, i2, i3, j0, j1, j2, j3, hM, v0, v1, v2, w0, w1, w2, hrub, g0, g1, g2, ht, max3_is, min3_is, d1, d2, u0, u1, u2, k0, k1, k2, bo, t0, t1, m0, hx, fk1, fk2, fk3]
                · have fk2 := eq_false f2
                  by_cases f3 : spI (mvI vx (2 * gx) t) = mvI vx (2 * gx) t ∧ spI (mvI vy (2 * gy) t) = mvI vy (2 * gy) t ∧ spI (mvI vz (2 * gz) t) = mvI vz (2 * gz) t
                  · have fk3 := eq_true f3
                    simp (maxSteps := 10000000) [Tryz.f4, fallS, copyR, spI_InI, hct, hid, i1, i2, i3, j0, j1, j2, j3, hM, v0, v1, v2, w0, w1, w2, hrub, g0, g1, g2, ht, max3_is, min3_is, d1, d2, u0, u1, u2, k0, k1, k2, bo, t0, t1, m0, hx, fk1, fk2, fk3]
                  · have fk3 := eq_false f3
                    simp (maxSteps := 10000000) [Tryz.f4, fallS, copyR, spI_InI, hct, hid, i1, i2, i3, j0, j1, j2, j3, hM, v0, v1, v2, w0, w1, w2, hrub, g0, g1, g2, ht, max3_is, min3_is, d1, d2, u0, u1, u2, k0, k1, k2, bo, t0, t1, m0, hx, fk1, fk2, fk3]
              · have fk1 := eq_false fk
                by_cases f2 : spI (mvI (spI (mvI vx gx t)) gx t) = mvI (spI (mvI vx gx t)) gx t ∧ spI (mvI (spI (mvI vy gy t)) gy t) = mvI (spI (mvI vy gy t)) gy t ∧ spI (mvI (spI (mvI vz gz t)) gz t) = mvI (spI (mvI vz gz t)) gz t
                · have fk2 := eq_true f2
                  by_cases f3 : spI (mvI vx (2 * gx) t) = mvI vx (2 * gx) t ∧ spI (mvI vy (2 * gy) t) = mvI vy (2 * gy) t ∧ spI (mvI vz (2 * gz) t) = mvI vz (2 * gz) t
                  · have fk3 := eq_true f3
                    simp (maxSteps := 10000000) [Tryz.f4, fallS, copyR, spI_InI, hct, hid, i1, i2, i3, j0, j1, j2, j3, hM, v0, v1, v2, w0, w1, w2, hrub, g0, g1, g2, ht, max3_is, min3_is, d1, d2, u0, u1, u2, k0, k1, k2, bo, t0, t1, m0, hx, fk1, fk2, fk3]
                  · have fk3 := eq_false f3
                    simp (maxSteps := 10000000) [Tryz.f4, fallS, copyR, spI_InI, hct, hid, i1, i2, i3, j0, j1, j2, j3, hM, v0, v1, v2, w0, w1, w2, hrub, g0, g1, g2, ht, max3_is, min3_is, d1, d2, u0, u1, u2, k0, k1, k2, bo, t0, t1, m0, hx, fk1, fk2, fk3]
                · have fk2 := eq_false f2
                  by_cases f3 : spI (mvI vx (2 * gx) t) = mvI vx (2 * gx) t ∧ spI (mvI vy (2 * gy) t) = mvI vy (2 * gy) t ∧ spI (mvI vz (2 * gz) t) = mvI vz (2 * gz) t
                  · have fk3 := eq_true f3
                    simp (maxSteps := 10000000) [Tryz.f4, fallS, copyR, spI_InI, hct, hid, i1, i2, i3, j0, j1, j2, j3, hM, v0, v1, v2, w0, w1, w2, hrub, g0, g1, g2, ht, max3_is, min3_is, d1, d2, u0, u1, u2, k0, k1, k2, bo, t0, t1, m0, hx, fk1, fk2, fk3]
                  · have fk3 := eq_false f3
                    simp (maxSteps := 10000000) [Tryz.f4, fallS, copyR, spI_InI, hct, hid, i1, i2, i3, j0, j1, j2, j3, hM, v0, v1, v2, w0, w1, w2, hrub, g0, g1, g2, ht, max3_is, min3_is, d1, d2, u0, u1, u2, k0, k1, k2, bo, t0, t1, m0, hx, fk1, fk2, fk3]
          · have okt := eq_false ok
            have ch0 : ¬ chI ident kd r x y z p1 p2 p3 q0 q1 q2 q3 M vx vy vz wx wy wz rub 0 (fun _ => 0) t = 0 := fun e => ok (ch_ok0 e)
            have chb : (chI ident kd r x y z p1 p2 p3 q0 q1 q2 q3 M vx vy vz wx wy wz rub 0 (fun _ => 0) t != 0) = true := by simpa using ch0
            simp (maxSteps := 10000000) [Tryz.f4, fallS, InI_zero, hct, hid, i1, i2, i3, j0, j1, j2, j3, hM, v0, v1, v2, w0, w1, w2, hrub, g0, g1, g2, ht, max3_is, min3_is, d1, d2, u0, u1, u2, k0, k1, k2, okt, chb, zero_ch, zero_bo, zero_sh]
        · refine ⟨_, _, _, .bool true, hlaid, rfl, rfl, rfl, ?_⟩
          by_cases hn : (100 : Int) < n
          · simp (maxSteps := 10000000) [Tryz.f4, hn]
          · have sh := hlw.sh hn
            have hct := eq_true sh
            by_cases d1 : 4398046511104 < max3 gx gy gz
            · simp (maxSteps := 10000000) [Tryz.f4, max3_is, d1, hn]
            by_cases d2 : min3 gx gy gz < -4398046511104
            · simp (maxSteps := 10000000) [Tryz.f4, max3_is, min3_is, d1, d2, hn]
            have gb : (-4398046511104 ≤ gx ∧ gx ≤ 4398046511104) ∧ (-4398046511104 ≤ gy ∧ gy ≤ 4398046511104) ∧ (-4398046511104 ≤ gz ∧ gz ≤ 4398046511104) := place_iff.2 ⟨d1, d2⟩
            have u0 : IntKind.i64.wrap (2 * gx) = 2 * gx := wrap_i64_in (by omega) (by omega)
            have u1 : IntKind.i64.wrap (2 * gy) = 2 * gy := wrap_i64_in (by omega) (by omega)
            have u2 : IntKind.i64.wrap (2 * gz) = 2 * gz := wrap_i64_in (by omega) (by omega)
            have k0 : InI (2 * gx) := by unfold InI; omega
            have k1 : InI (2 * gy) := by unfold InI; omega
            have k2 : InI (2 * gz) := by unfold InI; omega
            by_cases ok : boI ident kd r x y z n f p1 p2 p3 q0 q1 q2 q3 M vx vy vz wx wy wz rub = 0 ∧ 0 ≤ t ∧ t ≤ 4294967296
            · obtain ⟨bo, t0, t1⟩ := id ok
              obtain ⟨hid2, th, fi, hr⟩ := bo_parts bo
              obtain ⟨⟨s0, s1, s2⟩, s3, s4, s5⟩ := fine_sp fi
              by_cases m0 : M = 0
              · subst m0
                obtain ⟨⟨rfl, rfl, rfl⟩, rfl, rfl, rfl⟩ := fine_0 fi
                simp (maxSteps := 10000000) [Tryz.f4, fallS, copyR, bo_cut, sh_cut sh, hct, hid, i1, i2, i3, j0, j1, j2, j3, hM, hrub, g0, g1, g2, ht, hE, max3_is, min3_is, d1, d2, u0, u1, u2, k0, k1, k2, bo, t0, t1, hn]
              · have hx : boI ident kd r x y z n f p1 p2 p3 q0 q1 q2 q3 M (spI (mvI vx gx t)) (spI (mvI vy gy t)) (spI (mvI vz gz t)) wx wy wz rub = 0 := bo_of hid2 th ⟨fine_of m0 fi ⟨spI_sp, spI_sp, spI_sp⟩ ⟨s3, s4, s5⟩, hr⟩
                by_cases fk : spI (mvI vx gx t) = mvI vx gx t ∧ spI (mvI vy gy t) = mvI vy gy t ∧ spI (mvI vz gz t) = mvI vz gz t
                · have fk1 := eq_true fk
                  by_cases f2 : spI (mvI (spI (mvI vx gx t)) gx t) = mvI (spI (mvI vx gx t)) gx t ∧ spI (mvI (spI (mvI vy gy t)) gy t) = mvI (spI (mvI vy gy t)) gy t ∧ spI (mvI (spI (mvI vz gz t)) gz t) = mvI (spI (mvI vz gz t)) gz t
                  · have fk2 := eq_true f2
                    by_cases f3 : spI (mvI vx (2 * gx) t) = mvI vx (2 * gx) t ∧ spI (mvI vy (2 * gy) t) = mvI vy (2 * gy) t ∧ spI (mvI vz (2 * gz) t) = mvI vz (2 * gz) t
                    · have fk3 := eq_true f3
                      have n0 := near_two ⟨fk.1, f2.1, f3.1⟩
                      have n1 := near_two ⟨fk.2.1, f2.2.1, f3.2.1⟩
                      have n2 := near_two ⟨fk.2.2, f2.2.2, f3.2.2⟩
                      simp (maxSteps := 10000000) [Tryz.f4, fallS, copyR, bo_cut, sh_cut sh, spI_InI, hct, hid, i1, i2, i3, j0, j1, j2, j3, hM, v0, v1, v2, w0, w1, w2, hrub, g0, g1, g2, ht, hE, max3_is, min3_is, d1, d2, u0, u1, u2, k0, k1, k2, bo, t0, t1, m0, hx, fk1, fk2, fk3, n0, n1, n2, hn]
                    · have fk3 := eq_false f3
                      simp (maxSteps := 10000000) [Tryz.f4, fallS, copyR, bo_cut, sh_cut sh, spI_InI, hct, hid, i1, i2, i3, j0, j1, j2, j3, hM, v0, v1, v2, w0, w1, w2, hrub, g0, g1, g2, ht, hE, max3_is, min3_is, d1, d2, u0, u1, u2, k0, k1, k2, bo, t0, t1, m0, hx, fk1, fk2, fk3, hn]
                  · have fk2 := eq_false f2
                    by_cases f3 : spI (mvI vx (2 * gx) t) = mvI vx (2 * gx) t ∧ spI (mvI vy (2 * gy) t) = mvI vy (2 * gy) t ∧ spI (mvI vz (2 * gz) t) = mvI vz (2 * gz) t
                    · have fk3 := eq_true f3
                      simp (maxSteps := 10000000) [Tryz.f4, fallS, copyR, bo_cut, sh_cut sh, spI_InI, hct, hid, i1, i2, i3, j0, j1, j2, j3, hM, v0, v1, v2, w0, w1, w2, hrub, g0, g1, g2, ht, hE, max3_is, min3_is, d1, d2, u0, u1, u2, k0, k1, k2, bo, t0, t1, m0, hx, fk1, fk2, fk3, hn]
                    · have fk3 := eq_false f3
                      simp (maxSteps := 10000000) [Tryz.f4, fallS, copyR, bo_cut, sh_cut sh, spI_InI, hct, hid, i1, i2, i3, j0, j1, j2, j3, hM, v0, v1, v2, w0, w1, w2, hrub, g0, g1, g2, ht, hE, max3_is, min3_is, d1, d2, u0, u1, u2, k0, k1, k2, bo, t0, t1, m0, hx, fk1, fk2, fk3, hn]
                · have fk1 := eq_false fk
                  by_cases f2 : spI (mvI (spI (mvI vx gx t)) gx t) = mvI (spI (mvI vx gx t)) gx t ∧ spI (mvI (spI (mvI vy gy t)) gy t) = mvI (spI (mvI vy gy t)) gy t ∧ spI (mvI (spI (mvI vz gz t)) gz t) = mvI (spI (mvI vz gz t)) gz t
                  · have fk2 := eq_true f2
                    by_cases f3 : spI (mvI vx (2 * gx) t) = mvI vx (2 * gx) t ∧ spI (mvI vy (2 * gy) t) = mvI vy (2 * gy) t ∧ spI (mvI vz (2 * gz) t) = mvI vz (2 * gz) t
                    · have fk3 := eq_true f3
                      simp (maxSteps := 10000000) [Tryz.f4, fallS, copyR, bo_cut, sh_cut sh, spI_InI, hct, hid, i1, i2, i3, j0, j1, j2, j3, hM, v0, v1, v2, w0, w1, w2, hrub, g0, g1, g2, ht, hE, max3_is, min3_is, d1, d2, u0, u1, u2, k0, k1, k2, bo, t0, t1, m0, hx, fk1, fk2, fk3, hn]
                    · have fk3 := eq_false f3
                      simp (maxSteps := 10000000) [Tryz.f4, fallS, copyR, bo_cut, sh_cut sh, spI_InI, hct, hid, i1, i2, i3, j0, j1, j2, j3, hM, v0, v1, v2, w0, w1, w2, hrub, g0, g1, g2, ht, hE, max3_is, min3_is, d1, d2, u0, u1, u2, k0, k1, k2, bo, t0, t1, m0, hx, fk1, fk2, fk3, hn]
                  · have fk2 := eq_false f2
                    by_cases f3 : spI (mvI vx (2 * gx) t) = mvI vx (2 * gx) t ∧ spI (mvI vy (2 * gy) t) = mvI vy (2 * gy) t ∧ spI (mvI vz (2 * gz) t) = mvI vz (2 * gz) t
                    · have fk3 := eq_true f3
                      simp (maxSteps := 10000000) [Tryz.f4, fallS, copyR, bo_cut, sh_cut sh, spI_InI, hct, hid, i1, i2, i3, j0, j1, j2, j3, hM, v0, v1, v2, w0, w1, w2, hrub, g0, g1, g2, ht, hE, max3_is, min3_is, d1, d2, u0, u1, u2, k0, k1, k2, bo, t0, t1, m0, hx, fk1, fk2, fk3, hn]
                    · have fk3 := eq_false f3
                      simp (maxSteps := 10000000) [Tryz.f4, fallS, copyR, bo_cut, sh_cut sh, spI_InI, hct, hid, i1, i2, i3, j0, j1, j2, j3, hM, v0, v1, v2, w0, w1, w2, hrub, g0, g1, g2, ht, hE, max3_is, min3_is, d1, d2, u0, u1, u2, k0, k1, k2, bo, t0, t1, m0, hx, fk1, fk2, fk3, hn]
            · have okt := eq_false ok
              have ch0 : ¬ chI ident kd r x y z p1 p2 p3 q0 q1 q2 q3 M vx vy vz wx wy wz rub n f t = 0 := fun e => ok (ch_ok0 e)
              have chb : (chI ident kd r x y z p1 p2 p3 q0 q1 q2 q3 M vx vy vz wx wy wz rub n f t != 0) = true := by simpa using ch0
              simp (maxSteps := 10000000) [Tryz.f4, fallS, InI_zero, hct, hid, i1, i2, i3, j0, j1, j2, j3, hM, v0, v1, v2, w0, w1, w2, hrub, g0, g1, g2, ht, hE, max3_is, min3_is, d1, d2, u0, u1, u2, k0, k1, k2, okt, chb, zero_ch, zero_bo, zero_sh, hn]
      · simp [*] at h
    · simp [*] at h
  · simp at h
end Go.X
