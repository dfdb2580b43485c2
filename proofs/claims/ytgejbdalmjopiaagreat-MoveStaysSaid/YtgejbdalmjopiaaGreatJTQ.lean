/- What the calls tell may be; a body without speed and pull stays. -/
import Derived.Test.YtgejbdalmjopiaaGreatJTQ1
import Derived.Test.YtgejbdalmjopiaaGreatJTQ2
namespace Go.X
open Go.Proofs
attribute [local irreducible] Good
set_option maxHeartbeats 400000000 in
set_option maxRecDepth 100000 in
theorem lawStays24_sl {ident kd r x y z p1 p2 p3 q0 q1 q2 q3 M vx vy vz wx wy wz rub gx gy gz t : Int} {n o1 c : Nat} {f : Nat → Int} {items : List AV} {ty : TypeId} (hc : (InI ident ∧ (InI p1 ∧ InI p2 ∧ InI p3 ∧ InI q0 ∧ InI q1 ∧ InI q2 ∧ InI q3) ∧ (InI M ∧ (InI vx ∧ InI vy ∧ InI vz) ∧ (InI wx ∧ InI wy ∧ InI wz)) ∧ InI rub) ∧ LwP kd r x y z n f ∧ InI gx ∧ InI gy ∧ InI gz ∧ InI t)
    (hE : ∀ (ts : List AV) (x : List Blk) (df : List (FuncId × List AV)), listE (St.mem ⟨ts, (⟨items, ty⟩ : Blk) :: x, df⟩) (.slice 0 o1 n c) = some (n, f))
    (hE2 : ∀ (ts : List AV) (x : List Blk) (df : List (FuncId × List AV)) (l : List Nat), 0 ∈ l → listE (envOf (St.mem ⟨ts, (⟨items, ty⟩ : Blk) :: x, df⟩) l) (.slice 0 o1 n c) = some (n, f)) :
    lawStays24G (fun _ => none) 1 [.agg [.int .i64 ident, .int .i64 kd, .int .i64 r, .int .i64 x, .int .i64 y, .int .i64 z, .slice 0 o1 n c, .int .i64 p1, .int .i64 p2, .int .i64 p3, .int .i64 q0, .int .i64 q1, .int .i64 q2, .int .i64 q3, .int .i64 M, .int .i64 vx, .int .i64 vy, .int .i64 vz, .int .i64 wx, .int .i64 wy, .int .i64 wz, .int .i64 rub], .agg [.int .i64 gx, .int .i64 gy, .int .i64 gz], .int .i64 t] [⟨items, ty⟩] := by
  obtain ⟨⟨hid, ⟨i1, i2, i3, j0, j1, j2, j3⟩, ⟨hM, ⟨v0, v1, v2⟩, w0, w1, w2⟩, hrub⟩, hlw, g0, g1, g2, ht⟩ := id hc
  unfold lawStays24G
  by_cases hn : (100 : Int) < n
  · simp (maxSteps := 10000000) [lawStays24Body, lawStays24ST, Tryz.f6, hn]
  · have sh := hlw.sh hn
    have hct := eq_true sh
    have h7 : n ≤ 256 := by omega
    obtain ⟨v, hv⟩ : ∃ v, boI ident kd r x y z n f p1 p2 p3 q0 q1 q2 q3 M vx vy vz wx wy wz rub = v := ⟨_, rfl⟩
    by_cases bo : v = 0
    · subst bo
      obtain ⟨hid2, th, fi, hr⟩ := bo_parts hv
      obtain ⟨pl, tt, ck⟩ := th_parts th
      obtain ⟨⟨s0, s1, s2⟩, s3, s4, s5⟩ := fine_sp fi
      by_cases t0 : t < 0
      · have e : chI ident kd r x y z p1 p2 p3 q0 q1 q2 q3 M vx vy vz wx wy wz rub n f t = 2 := by unfold chI; rw [if_pos hv, if_pos (by omega)]
        have t0' : ¬ 0 ≤ t := by omega
        simp (maxSteps := 10000000) [lawStays24Body, lawStays24ST, Tryz.f6, fallS, goS, boCkS, hct, hid, i1, i2, i3, j0, j1, j2, j3, hM, v0, v1, v2, w0, w1, w2, hrub, g0, g1, g2, ht, hE, hv, e, t0, t0', hn]
      by_cases t1 : 4294967296 < t
      · have e : chI ident kd r x y z p1 p2 p3 q0 q1 q2 q3 M vx vy vz wx wy wz rub n f t = 2 := by unfold chI; rw [if_pos hv, if_pos (by omega)]
        have t1' : ¬ t ≤ 4294967296 := by omega
        simp (maxSteps := 10000000) [lawStays24Body, lawStays24ST, Tryz.f6, fallS, goS, boCkS, hct, hid, i1, i2, i3, j0, j1, j2, j3, hM, v0, v1, v2, w0, w1, w2, hrub, g0, g1, g2, ht, hE, hv, e, t0, t1, t1', hn]
      have t0' : 0 ≤ t := by omega
      have t1' : t ≤ 4294967296 := by omega
      by_cases m0 : M = 0
      · subst m0
        obtain ⟨⟨rfl, rfl, rfl⟩, rfl, rfl, rfl⟩ := fine_0 fi
        simp (maxSteps := 10000000) [lawStays24Body, lawStays24ST, Tryz.f6, fallS, goS, withS, copyR, boCkS, boSameS, BoEq_same, bo_cut, cut_cut, sh_cut sh, spI_0, hct, h7, hid, i1, i2, i3, j0, j1, j2, j3, hM, hrub, g0, g1, g2, ht, hE, hv, t0', t1', hn]
      · exact lawStays24_sl2 hc hE hE2 hn hv t0 t1 m0
    · have bob : (v != 0) = true := by simpa using bo
      simp (maxSteps := 10000000) [lawStays24Body, lawStays24ST, Tryz.f6, boCkS, hct, hid, i1, i2, i3, j0, j1, j2, j3, hM, v0, v1, v2, w0, w1, w2, hrub, hE, hv, bob, hn]
noncomputable def lawStays24S : Sum := fun args env _ => match args with
  | [.agg [.int .i64 ident, .int .i64 kd, .int .i64 r, .int .i64 x, .int .i64 y, .int .i64 z, l, .int .i64 p1, .int .i64 p2, .int .i64 p3, .int .i64 q0, .int .i64 q1, .int .i64 q2, .int .i64 q3, .int .i64 M, .int .i64 vx, .int .i64 vy, .int .i64 vz, .int .i64 wx, .int .i64 wy, .int .i64 wz, .int .i64 rub], .agg [.int .i64 gx, .int .i64 gy, .int .i64 gz], .int .i64 t] => match listE env l with
    | some (n, f) => open Classical in if (InI ident ∧ (InI p1 ∧ InI p2 ∧ InI p3 ∧ InI q0 ∧ InI q1 ∧ InI q2 ∧ InI q3) ∧ (InI M ∧ (InI vx ∧ InI vy ∧ InI vz) ∧ (InI wx ∧ InI wy ∧ InI wz)) ∧ InI rub) ∧ LwP kd r x y z n f ∧ InI gx ∧ InI gy ∧ InI gz ∧ InI t then .val (.bool true) [] [] else .fail
    | none => .fail
  | _ => .fail
set_option maxHeartbeats 400000000 in
set_option maxRecDepth 100000 in
theorem lawStays24_ok : SumOk Tryz.prog 6 lawStays24S := by
  refine sum_read (L := fun _ => none) (n := 1) (S := stOf lawStays24ST) drawS Tryz.T_ok (stOf_ok (by simp [lawStays24ST, boCk_ok, fall_ok, go_ok, with_ok, boSame_ok, qUnit_ok, awake24_ok])) Tryz.func6 rfl (by kernel_rfl) (by kernel_rfl) ?_
  intro args env nxt h
  unfold lawStays24S at h ⊢
  split at h
  · rename_i ident kd r x y z l p1 p2 p3 q0 q1 q2 q3 M vx vy vz wx wy wz rub gx gy gz t
    split at h
    · rename_i n f hl
      split at h
      · rename_i hc
        simp only [if_pos hc]
        obtain ⟨⟨hid, ⟨i1, i2, i3, j0, j1, j2, j3⟩, ⟨hM, ⟨v0, v1, v2⟩, w0, w1, w2⟩, hrub⟩, hlw, g0, g1, g2, ht⟩ := id hc
        rcases laid_shape (fun l => [.agg [.int .i64 ident, .int .i64 kd, .int .i64 r, .int .i64 x, .int .i64 y, .int .i64 z, l, .int .i64 p1, .int .i64 p2, .int .i64 p3, .int .i64 q0, .int .i64 q1, .int .i64 q2, .int .i64 q3, .int .i64 M, .int .i64 vx, .int .i64 vy, .int .i64 vz, .int .i64 wx, .int .i64 wy, .int .i64 wz, .int .i64 rub], .agg [.int .i64 gx, .int .i64 gy, .int .i64 gz], .int .i64 t]) hl (fun _ _ => rfl) (fun l => by simp) with ⟨rfl, rfl, rfl, hlaid⟩ | ⟨p, o1, c, items, ty, rfl, hlaid, hnc, hr', -, hE, hE2, hload⟩
        · refine ⟨_, _, _, .bool true, hlaid, rfl, rfl, rfl, ?_⟩
          exact lawStays24_nil hc
        · refine ⟨_, _, _, .bool true, hlaid, rfl, rfl, rfl, ?_⟩
          exact lawStays24_sl hc hE hE2
      · simp [*] at h
    · simp [*] at h
  · simp at h
end Go.X
