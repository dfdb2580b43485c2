/- Are two bodies the same? The document's. -/
import Derived.Test.YtpojeehijepmhaaGreatJTB
namespace Go.X
open Go.Proofs
attribute [local irreducible] Good
set_option maxHeartbeats 400000000 in
set_option maxRecDepth 100000 in
theorem r24same_ok : SumOk Tryz.prog 10 boSameS := by
  refine sum_read (L := fun _ => none) (n := 1) (S := stOf [(26, shSameS)]) drawS Tryz.T_ok (stOf_ok (by simp [r9same_ok])) Tryz.func10 rfl (by kernel_rfl) (by kernel_rfl) ?_
  intro args env nxt h
  unfold boSameS at h ⊢
  split at h
  · rename_i idn kd r x y z l1 p1 p2 p3 q0 q1 q2 q3 M vx vy vz wx wy wz rub idnb kdb rb xb yb zb l2 p1b p2b p3b q0b q1b q2b q3b Mb vxb vyb vzb wxb wyb wzb rubb
    split at h
    · rename_i n1 f1 n2 f2 e1 e2
      split at h
      · rename_i hn
        simp only [if_pos hn]
        rcases listE_cases e1 with ⟨rfl, rfl, rfl⟩ | ⟨p1', o1, c1, rfl⟩
        · rcases listE_cases e2 with ⟨rfl, rfl, rfl⟩ | ⟨p2', o2, c2, rfl⟩
          · refine ⟨_, _, _, .bool (decide (BoEq idn kd r x y z p1 p2 p3 q0 q1 q2 q3 M vx vy vz wx wy wz rub idnb kdb rb xb yb zb p1b p2b p3b q0b q1b q2b q3b Mb vxb vyb vzb wxb wyb wzb rubb 0 0 (fun _ => 0) (fun _ => 0))), laid0 (by simp), rfl, rfl, rfl, ?_⟩
            by_cases c1 : idn = idnb
            · subst c1
              by_cases c2 : ShEq kd r x y z kdb rb xb yb zb 0 0 (fun _ => 0) (fun _ => 0)
              · skip
                by_cases c3 : p1 = p1b ∧ p2 = p2b ∧ p3 = p3b ∧ q0 = q0b ∧ q1 = q1b ∧ q2 = q2b ∧ q3 = q3b
                · obtain ⟨rfl, rfl, rfl, rfl, rfl, rfl, rfl⟩ := c3
                  by_cases c4 : M = Mb
                  · subst c4
                    by_cases c5 : vx = vxb ∧ vy = vyb ∧ vz = vzb
                    · obtain ⟨rfl, rfl, rfl⟩ := c5
                      by_cases c6 : wx = wxb ∧ wy = wyb ∧ wz = wzb
                      · obtain ⟨rfl, rfl, rfl⟩ := c6
                        by_cases c7 : rub = rubb
                        · subst c7
                          simp (maxSteps := 10000000) [Tryz.f10, shSameS, hn, BoEq, c2]
                        · have c7' : (rub == rubb) = false := by simpa using c7
                          simp (maxSteps := 10000000) [Tryz.f10, shSameS, hn, BoEq, c7, c7', c2]
                      · have c6' : (wx == wxb && (wy == wyb && (wz == wzb))) = false := by simpa using fun a0 a1 a2 => c6 ⟨a0, a1, a2⟩
                        simp (maxSteps := 10000000) [Tryz.f10, shSameS, hn, BoEq, eq_false c6, c6', c2]
                    · have c5' : (vx == vxb && (vy == vyb && (vz == vzb))) = false := by simpa using fun a0 a1 a2 => c5 ⟨a0, a1, a2⟩
                      simp (maxSteps := 10000000) [Tryz.f10, shSameS, hn, BoEq, eq_false c5, c5', c2]
                  · have c4' : (M == Mb) = false := by simpa using c4
                    simp (maxSteps := 10000000) [Tryz.f10, shSameS, hn, BoEq, c4, c4', c2]
                · have c3' : (p1 == p1b && (p2 == p2b && (p3 == p3b && (q0 == q0b && (q1 == q1b && (q2 == q2b && (q3 == q3b))))))) = false := by simpa using fun a0 a1 a2 a3 a4 a5 a6 => c3 ⟨a0, a1, a2, a3, a4, a5, a6⟩
                  simp (maxSteps := 10000000) [Tryz.f10, shSameS, hn, BoEq, eq_false c3, c3', c2]
              · simp (maxSteps := 10000000) [Tryz.f10, shSameS, hn, BoEq, c2]
            · have c1' : (idn == idnb) = false := by simpa using c1
              simp (maxSteps := 10000000) [Tryz.f10, BoEq, c1, c1']
          · obtain ⟨-, hnc2, i2, t2, hq, hr2', ⟨oo2, FF2, hrow2, hf2⟩, -⟩ := listE_slice e2
            have hE2' := listE_own hrow2 hf2 hnc2
            have hE2e := listE_ownE hrow2 hf2 hnc2
            refine ⟨_, _, _, .bool (decide (BoEq idn kd r x y z p1 p2 p3 q0 q1 q2 q3 M vx vy vz wx wy wz rub idnb kdb rb xb yb zb p1b p2b p3b q0b q1b q2b q3b Mb vxb vyb vzb wxb wyb wzb rubb 0 n2 (fun _ => 0) f2)), laid1 [.agg [.int .i64 idn, .int .i64 kd, .int .i64 r, .int .i64 x, .int .i64 y, .int .i64 z, .nilslice, .int .i64 p1, .int .i64 p2, .int .i64 p3, .int .i64 q0, .int .i64 q1, .int .i64 q2, .int .i64 q3, .int .i64 M, .int .i64 vx, .int .i64 vy, .int .i64 vz, .int .i64 wx, .int .i64 wy, .int .i64 wz, .int .i64 rub], .agg [.int .i64 idnb, .int .i64 kdb, .int .i64 rb, .int .i64 xb, .int .i64 yb, .int .i64 zb, .slice 0 o2 n2 c2, .int .i64 p1b, .int .i64 p2b, .int .i64 p3b, .int .i64 q0b, .int .i64 q1b, .int .i64 q2b, .int .i64 q3b, .int .i64 Mb, .int .i64 vxb, .int .i64 vyb, .int .i64 vzb, .int .i64 wxb, .int .i64 wyb, .int .i64 wzb, .int .i64 rubb]] rfl (by simp) hq hr2', rfl, rfl, rfl, ?_⟩
            by_cases c1 : idn = idnb
            · subst c1
              by_cases c2 : ShEq kd r x y z kdb rb xb yb zb 0 n2 (fun _ => 0) f2
              · skip
                by_cases c3 : p1 = p1b ∧ p2 = p2b ∧ p3 = p3b ∧ q0 = q0b ∧ q1 = q1b ∧ q2 = q2b ∧ q3 = q3b
                · obtain ⟨rfl, rfl, rfl, rfl, rfl, rfl, rfl⟩ := c3
                  by_cases c4 : M = Mb
                  · subst c4
                    by_cases c5 : vx = vxb ∧ vy = vyb ∧ vz = vzb
                    · obtain ⟨rfl, rfl, rfl⟩ := c5
                      by_cases c6 : wx = wxb ∧ wy = wyb ∧ wz = wzb
                      · obtain ⟨rfl, rfl, rfl⟩ := c6
                        by_cases c7 : rub = rubb
                        · subst c7
                          simp (maxSteps := 10000000) [Tryz.f10, shSameS, hE2', hn, BoEq, c2]
                        · have c7' : (rub == rubb) = false := by simpa using c7
                          simp (maxSteps := 10000000) [Tryz.f10, shSameS, hE2', hn, BoEq, c7, c7', c2]
                      · have c6' : (wx == wxb && (wy == wyb && (wz == wzb))) = false := by simpa using fun a0 a1 a2 => c6 ⟨a0, a1, a2⟩
                        simp (maxSteps := 10000000) [Tryz.f10, shSameS, hE2', hn, BoEq, eq_false c6, c6', c2]
                    · have c5' : (vx == vxb && (vy == vyb && (vz == vzb))) = false := by simpa using fun a0 a1 a2 => c5 ⟨a0, a1, a2⟩
                      simp (maxSteps := 10000000) [Tryz.f10, shSameS, hE2', hn, BoEq, eq_false c5, c5', c2]
                  · have c4' : (M == Mb) = false := by simpa using c4
                    simp (maxSteps := 10000000) [Tryz.f10, shSameS, hE2', hn, BoEq, c4, c4', c2]
                · have c3' : (p1 == p1b && (p2 == p2b && (p3 == p3b && (q0 == q0b && (q1 == q1b && (q2 == q2b && (q3 == q3b))))))) = false := by simpa using fun a0 a1 a2 a3 a4 a5 a6 => c3 ⟨a0, a1, a2, a3, a4, a5, a6⟩
                  simp (maxSteps := 10000000) [Tryz.f10, shSameS, hE2', hn, BoEq, eq_false c3, c3', c2]
              · simp (maxSteps := 10000000) [Tryz.f10, shSameS, hE2', hn, BoEq, c2]
            · have c1' : (idn == idnb) = false := by simpa using c1
              simp (maxSteps := 10000000) [Tryz.f10, BoEq, c1, c1']
        · obtain ⟨-, hnc1, i1, t1, hp, hr1', ⟨oo1, FF1, hrow1, hf1⟩, -⟩ := listE_slice e1
          rcases listE_cases e2 with ⟨rfl, rfl, rfl⟩ | ⟨p2', o2, c2, rfl⟩
          · have hE1' := listE_own hrow1 hf1 hnc1
            have hE1e := listE_ownE hrow1 hf1 hnc1
            refine ⟨_, _, _, .bool (decide (BoEq idn kd r x y z p1 p2 p3 q0 q1 q2 q3 M vx vy vz wx wy wz rub idnb kdb rb xb yb zb p1b p2b p3b q0b q1b q2b q3b Mb vxb vyb vzb wxb wyb wzb rubb n1 0 f1 (fun _ => 0))), laid1 [.agg [.int .i64 idn, .int .i64 kd, .int .i64 r, .int .i64 x, .int .i64 y, .int .i64 z, .slice 0 o1 n1 c1, .int .i64 p1, .int .i64 p2, .int .i64 p3, .int .i64 q0, .int .i64 q1, .int .i64 q2, .int .i64 q3, .int .i64 M, .int .i64 vx, .int .i64 vy, .int .i64 vz, .int .i64 wx, .int .i64 wy, .int .i64 wz, .int .i64 rub], .agg [.int .i64 idnb, .int .i64 kdb, .int .i64 rb, .int .i64 xb, .int .i64 yb, .int .i64 zb, .nilslice, .int .i64 p1b, .int .i64 p2b, .int .i64 p3b, .int .i64 q0b, .int .i64 q1b, .int .i64 q2b, .int .i64 q3b, .int .i64 Mb, .int .i64 vxb, .int .i64 vyb, .int .i64 vzb, .int .i64 wxb, .int .i64 wyb, .int .i64 wzb, .int .i64 rubb]] rfl (by simp) hp hr1', rfl, rfl, rfl, ?_⟩
            by_cases c1 : idn = idnb
            · subst c1
              by_cases c2 : ShEq kd r x y z kdb rb xb yb zb n1 0 f1 (fun _ => 0)
              · skip
                by_cases c3 : p1 = p1b ∧ p2 = p2b ∧ p3 = p3b ∧ q0 = q0b ∧ q1 = q1b ∧ q2 = q2b ∧ q3 = q3b
                · obtain ⟨rfl, rfl, rfl, rfl, rfl, rfl, rfl⟩ := c3
                  by_cases c4 : M = Mb
                  · subst c4
                    by_cases c5 : vx = vxb ∧ vy = vyb ∧ vz = vzb
                    · obtain ⟨rfl, rfl, rfl⟩ := c5
                      by_cases c6 : wx = wxb ∧ wy = wyb ∧ wz = wzb
                      · obtain ⟨rfl, rfl, rfl⟩ := c6
                        by_cases c7 : rub = rubb
                        · subst c7
                          simp (maxSteps := 10000000) [Tryz.f10, shSameS, hE1', hn, BoEq, c2]
                        · have c7' : (rub == rubb) = false := by simpa using c7
                          simp (maxSteps := 10000000) [Tryz.f10, shSameS, hE1', hn, BoEq, c7, c7', c2]
                      · have c6' : (wx == wxb && (wy == wyb && (wz == wzb))) = false := by simpa using fun a0 a1 a2 => c6 ⟨a0, a1, a2⟩
                        simp (maxSteps := 10000000) [Tryz.f10, shSameS, hE1', hn, BoEq, eq_false c6, c6', c2]
                    · have c5' : (vx == vxb && (vy == vyb && (vz == vzb))) = false := by simpa using fun a0 a1 a2 => c5 ⟨a0, a1, a2⟩
                      simp (maxSteps := 10000000) [Tryz.f10, shSameS, hE1', hn, BoEq, eq_false c5, c5', c2]
                  · have c4' : (M == Mb) = false := by simpa using c4
                    simp (maxSteps := 10000000) [Tryz.f10, shSameS, hE1', hn, BoEq, c4, c4', c2]
                · have c3' : (p1 == p1b && (p2 == p2b && (p3 == p3b && (q0 == q0b && (q1 == q1b && (q2 == q2b && (q3 == q3b))))))) = false := by simpa using fun a0 a1 a2 a3 a4 a5 a6 => c3 ⟨a0, a1, a2, a3, a4, a5, a6⟩
                  simp (maxSteps := 10000000) [Tryz.f10, shSameS, hE1', hn, BoEq, eq_false c3, c3', c2]
              · simp (maxSteps := 10000000) [Tryz.f10, shSameS, hE1', hn, BoEq, c2]
            · have c1' : (idn == idnb) = false := by simpa using c1
              simp (maxSteps := 10000000) [Tryz.f10, BoEq, c1, c1']
          · obtain ⟨-, hnc2, i2, t2, hq, hr2', ⟨oo2, FF2, hrow2, hf2⟩, -⟩ := listE_slice e2
            by_cases hpq : p1' = p2'
            · subst hpq
              rw [hp] at hq
              cases hq
              have hE1' := listE_own hrow1 hf1 hnc1
              have hE2' := listE_own hrow2 hf2 hnc2
              have hE1e := listE_ownE hrow1 hf1 hnc1
              have hE2e := listE_ownE hrow2 hf2 hnc2
              refine ⟨_, _, _, .bool (decide (BoEq idn kd r x y z p1 p2 p3 q0 q1 q2 q3 M vx vy vz wx wy wz rub idnb kdb rb xb yb zb p1b p2b p3b q0b q1b q2b q3b Mb vxb vyb vzb wxb wyb wzb rubb n1 n2 f1 f2)), laid1 [.agg [.int .i64 idn, .int .i64 kd, .int .i64 r, .int .i64 x, .int .i64 y, .int .i64 z, .slice 0 o1 n1 c1, .int .i64 p1, .int .i64 p2, .int .i64 p3, .int .i64 q0, .int .i64 q1, .int .i64 q2, .int .i64 q3, .int .i64 M, .int .i64 vx, .int .i64 vy, .int .i64 vz, .int .i64 wx, .int .i64 wy, .int .i64 wz, .int .i64 rub], .agg [.int .i64 idnb, .int .i64 kdb, .int .i64 rb, .int .i64 xb, .int .i64 yb, .int .i64 zb, .slice 0 o2 n2 c2, .int .i64 p1b, .int .i64 p2b, .int .i64 p3b, .int .i64 q0b, .int .i64 q1b, .int .i64 q2b, .int .i64 q3b, .int .i64 Mb, .int .i64 vxb, .int .i64 vyb, .int .i64 vzb, .int .i64 wxb, .int .i64 wyb, .int .i64 wzb, .int .i64 rubb]] rfl (by simp) hp hr1', rfl, rfl, rfl, ?_⟩
              by_cases c1 : idn = idnb
              · subst c1
                by_cases c2 : ShEq kd r x y z kdb rb xb yb zb n1 n2 f1 f2
                · skip
                  by_cases c3 : p1 = p1b ∧ p2 = p2b ∧ p3 = p3b ∧ q0 = q0b ∧ q1 = q1b ∧ q2 = q2b ∧ q3 = q3b
                  · obtain ⟨rfl, rfl, rfl, rfl, rfl, rfl, rfl⟩ := c3
                    by_cases c4 : M = Mb
                    · subst c4
                      by_cases c5 : vx = vxb ∧ vy = vyb ∧ vz = vzb
                      · obtain ⟨rfl, rfl, rfl⟩ := c5
                        by_cases c6 : wx = wxb ∧ wy = wyb ∧ wz = wzb
                        · obtain ⟨rfl, rfl, rfl⟩ := c6
                          by_cases c7 : rub = rubb
                          · subst c7
                            simp (maxSteps := 10000000) [Tryz.f10, shSameS, hE1', hE2', hn, BoEq, c2]
                          · have c7' : (rub == rubb) = false := by simpa using c7
                            simp (maxSteps := 10000000) [Tryz.f10, shSameS, hE1', hE2', hn, BoEq, c7, c7', c2]
                        · have c6' : (wx == wxb && (wy == wyb && (wz == wzb))) = false := by simpa using fun a0 a1 a2 => c6 ⟨a0, a1, a2⟩
                          simp (maxSteps := 10000000) [Tryz.f10, shSameS, hE1', hE2', hn, BoEq, eq_false c6, c6', c2]
                      · have c5' : (vx == vxb && (vy == vyb && (vz == vzb))) = false := by simpa using fun a0 a1 a2 => c5 ⟨a0, a1, a2⟩
                        simp (maxSteps := 10000000) [Tryz.f10, shSameS, hE1', hE2', hn, BoEq, eq_false c5, c5', c2]
                    · have c4' : (M == Mb) = false := by simpa using c4
                      simp (maxSteps := 10000000) [Tryz.f10, shSameS, hE1', hE2', hn, BoEq, c4, c4', c2]
                  · have c3' : (p1 == p1b && (p2 == p2b && (p3 == p3b && (q0 == q0b && (q1 == q1b && (q2 == q2b && (q3 == q3b))))))) = false := by simpa using fun a0 a1 a2 a3 a4 a5 a6 => c3 ⟨a0, a1, a2, a3, a4, a5, a6⟩
                    simp (maxSteps := 10000000) [Tryz.f10, shSameS, hE1', hE2', hn, BoEq, eq_false c3, c3', c2]
                · simp (maxSteps := 10000000) [Tryz.f10, shSameS, hE1', hE2', hn, BoEq, c2]
              · have c1' : (idn == idnb) = false := by simpa using c1
                simp (maxSteps := 10000000) [Tryz.f10, BoEq, c1, c1']
            · have hE1' := listE_own hrow1 hf1 hnc1
              have hE2' : ∀ (ts : List AV) (b : Blk) (x : List Blk) (df : List (FuncId × List AV)), listE (St.mem ⟨ts, b :: (⟨i2, t2⟩ : Blk) :: x, df⟩) (.slice 1 o2 n2 c2) = some (n2, f2) := fun _ _ _ _ => listE_at rfl hrow2 hf2 hnc2
              have hE1e := listE_ownE hrow1 hf1 hnc1
              have hE2e : ∀ (ts : List AV) (b : Blk) (x : List Blk) (df : List (FuncId × List AV)) (l : List Nat), 1 ∈ l → listE (envOf (St.mem ⟨ts, b :: (⟨i2, t2⟩ : Blk) :: x, df⟩) l) (.slice 1 o2 n2 c2) = some (n2, f2) := fun _ _ _ _ l h => listE_at (by rw [envOf_app, if_pos h]; rfl) hrow2 hf2 hnc2
              refine ⟨_, _, _, .bool (decide (BoEq idn kd r x y z p1 p2 p3 q0 q1 q2 q3 M vx vy vz wx wy wz rub idnb kdb rb xb yb zb p1b p2b p3b q0b q1b q2b q3b Mb vxb vyb vzb wxb wyb wzb rubb n1 n2 f1 f2)), laid2 [.agg [.int .i64 idn, .int .i64 kd, .int .i64 r, .int .i64 x, .int .i64 y, .int .i64 z, .slice 0 o1 n1 c1, .int .i64 p1, .int .i64 p2, .int .i64 p3, .int .i64 q0, .int .i64 q1, .int .i64 q2, .int .i64 q3, .int .i64 M, .int .i64 vx, .int .i64 vy, .int .i64 vz, .int .i64 wx, .int .i64 wy, .int .i64 wz, .int .i64 rub], .agg [.int .i64 idnb, .int .i64 kdb, .int .i64 rb, .int .i64 xb, .int .i64 yb, .int .i64 zb, .slice 1 o2 n2 c2, .int .i64 p1b, .int .i64 p2b, .int .i64 p3b, .int .i64 q0b, .int .i64 q1b, .int .i64 q2b, .int .i64 q3b, .int .i64 Mb, .int .i64 vxb, .int .i64 vyb, .int .i64 vzb, .int .i64 wxb, .int .i64 wyb, .int .i64 wzb, .int .i64 rubb]] rfl (by simp) hp hq hpq hr1' hr2', rfl, rfl, rfl, ?_⟩
              by_cases c1 : idn = idnb
              · subst c1
                by_cases c2 : ShEq kd r x y z kdb rb xb yb zb n1 n2 f1 f2
                · skip
                  by_cases c3 : p1 = p1b ∧ p2 = p2b ∧ p3 = p3b ∧ q0 = q0b ∧ q1 = q1b ∧ q2 = q2b ∧ q3 = q3b
                  · obtain ⟨rfl, rfl, rfl, rfl, rfl, rfl, rfl⟩ := c3
                    by_cases c4 : M = Mb
                    · subst c4
                      by_cases c5 : vx = vxb ∧ vy = vyb ∧ vz = vzb
                      · obtain ⟨rfl, rfl, rfl⟩ := c5
                        by_cases c6 : wx = wxb ∧ wy = wyb ∧ wz = wzb
                        · obtain ⟨rfl, rfl, rfl⟩ := c6
                          by_cases c7 : rub = rubb
                          · subst c7
                            simp (maxSteps := 10000000) [Tryz.f10, shSameS, hE1', hE2', hn, BoEq, c2]; try exact two_same
                          · have c7' : (rub == rubb) = false := by simpa using c7
                            simp (maxSteps := 10000000) [Tryz.f10, shSameS, hE1', hE2', hn, BoEq, c7, c7', c2]; try exact two_same
                        · have c6' : (wx == wxb && (wy == wyb && (wz == wzb))) = false := by simpa using fun a0 a1 a2 => c6 ⟨a0, a1, a2⟩
                          simp (maxSteps := 10000000) [Tryz.f10, shSameS, hE1', hE2', hn, BoEq, eq_false c6, c6', c2]; try exact two_same
                      · have c5' : (vx == vxb && (vy == vyb && (vz == vzb))) = false := by simpa using fun a0 a1 a2 => c5 ⟨a0, a1, a2⟩
                        simp (maxSteps := 10000000) [Tryz.f10, shSameS, hE1', hE2', hn, BoEq, eq_false c5, c5', c2]; try exact two_same
                    · have c4' : (M == Mb) = false := by simpa using c4
                      simp (maxSteps := 10000000) [Tryz.f10, shSameS, hE1', hE2', hn, BoEq, c4, c4', c2]; try exact two_same
                  · have c3' : (p1 == p1b && (p2 == p2b && (p3 == p3b && (q0 == q0b && (q1 == q1b && (q2 == q2b && (q3 == q3b))))))) = false := by simpa using fun a0 a1 a2 a3 a4 a5 a6 => c3 ⟨a0, a1, a2, a3, a4, a5, a6⟩
                    simp (maxSteps := 10000000) [Tryz.f10, shSameS, hE1', hE2', hn, BoEq, eq_false c3, c3', c2]; try exact two_same
                · simp (maxSteps := 10000000) [Tryz.f10, shSameS, hE1', hE2', hn, BoEq, c2]; try exact two_same
              · have c1' : (idn == idnb) = false := by simpa using c1
                simp (maxSteps := 10000000) [Tryz.f10, BoEq, c1, c1']; try exact two_same
      · simp [*] at h
    · simp [*] at h
  · simp at h
end Go.X
