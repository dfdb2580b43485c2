/- Any body is accepted or refused, and resists as the document says. -/
import Derived.Test.YtpojeehijepmhaaGreatJTV
import Derived.Test.YtpojeehijepmhaaGreatJTC
import Derived.Test.YtpojeehijepmhaaGreatJTD
namespace Go.X
open Go.Proofs
attribute [local irreducible] Good
noncomputable def lawInert24S : Sum := fun args env _ => match args with
  | [.agg [.int .i64 idn, .int .i64 kd, .int .i64 r, .int .i64 x, .int .i64 y, .int .i64 z, l1, .int .i64 p1, .int .i64 p2, .int .i64 p3, .int .i64 q0, .int .i64 q1, .int .i64 q2, .int .i64 q3, .int .i64 M, .int .i64 vx, .int .i64 vy, .int .i64 vz, .int .i64 wx, .int .i64 wy, .int .i64 wz, .int .i64 rub], .agg [.int .i64 _identb, .int .i64 _kdb, .int .i64 _rb, .int .i64 _xb, .int .i64 _yb, .int .i64 _zb, l2, .int .i64 _p1b, .int .i64 _p2b, .int .i64 _p3b, .int .i64 _q0b, .int .i64 _q1b, .int .i64 _q2b, .int .i64 _q3b, .int .i64 _Mb, .int .i64 _vxb, .int .i64 _vyb, .int .i64 _vzb, .int .i64 _wxb, .int .i64 _wyb, .int .i64 _wzb, .int .i64 _rubb]] => match listE env l1, listE env l2 with
    | some (n1, f1), some _ => open Classical in if (InI idn ∧ (InI p1 ∧ InI p2 ∧ InI p3 ∧ InI q0 ∧ InI q1 ∧ InI q2 ∧ InI q3) ∧ (InI M ∧ (InI vx ∧ InI vy ∧ InI vz) ∧ (InI wx ∧ InI wy ∧ InI wz)) ∧ InI rub) ∧ LwP kd r x y z n1 f1 then .val (.bool true) [] [] else .fail
    | _, _ => .fail
  | _ => .fail
set_option maxHeartbeats 400000000 in
set_option maxRecDepth 100000 in
theorem lawInert24_ok : SumOk Tryz.prog 3 lawInert24S := by
  refine sum_read (L := fun _ => none) (n := 1) (S := stOf [(5, boInS), (6, boInS), (7, boCkS), (8, boCkS), (9, boSameS), (10, boSameS), (4, pureS awake24S)]) drawS Tryz.T_ok (stOf_ok (by simp [boIn_ok, r24In_ok, boCk_ok, r24Ck_ok, boSame_ok, r24same_ok, awake24_ok])) Tryz.func3 rfl (by kernel_rfl) (by kernel_rfl) ?_
  intro args env nxt h
  unfold lawInert24S at h ⊢
  split at h
  · rename_i idn kd r x y z l1 p1 p2 p3 q0 q1 q2 q3 M vx vy vz wx wy wz rub idnb kdb rb xb yb zb l2 p1b p2b p3b q0b q1b q2b q3b Mb vxb vyb vzb wxb wyb wzb rubb
    split at h
    · rename_i n1 f1 v2 e1 e2
      obtain ⟨n2, f2⟩ := v2
      split at h
      · rename_i hc
        simp only [if_pos hc]
        obtain ⟨⟨hid, ⟨ip1, ip2, ip3, j0, j1, j2, j3⟩, ⟨hM, ⟨v0, v1, v2⟩, w0, w1, w2⟩, hrub⟩, hlw⟩ := id hc
        rcases listE_cases e1 with ⟨rfl, rfl, rfl⟩ | ⟨p1', o1, c1, rfl⟩
        · rcases listE_cases e2 with ⟨rfl, rfl, rfl⟩ | ⟨p2', o2, c2, rfl⟩
          · refine ⟨_, _, _, .bool true, laid0 (by simp), rfl, by first | rfl | (split <;> rfl), by first | rfl | (split <;> rfl), ?_⟩
            have hct := eq_true (hlw.sh (by decide))
            obtain ⟨t0, t1, t2, t3, t4, t5, t6, t7, t8, t9, tA, tB, tC, tD, tE, tF, e, he⟩ := inV_is (idn := idn) (kd := kd) (r := r) (x := x) (y := y) (z := z) (p1 := p1) (p2 := p2) (p3 := p3) (q0 := q0) (q1 := q1) (q2 := q2) (q3 := q3) (M := M) (vx := vx) (vy := vy) (vz := vz) (wx := wx) (wy := wy) (wz := wz) (rub := rub) (n := 0) (f := fun _ => 0) ⟨j0, j1, j2, j3⟩
            simp (maxSteps := 10000000) [Tryz.f3, boInS, boCkS, boSameS, hct, he, hid, ip1, ip2, ip3, j0, j1, j2, j3, hM, v0, v1, v2, w0, w1, w2, hrub]
          · obtain ⟨-, hnc2, i2, t2, hq, hr2', ⟨oo2, FF2, hrow2, hf2⟩, -⟩ := listE_slice e2
            have hE2' := listE_own hrow2 hf2 hnc2
            have hE2e := listE_ownE hrow2 hf2 hnc2
            refine ⟨_, _, _, .bool true, laid1 [.agg [.int .i64 idn, .int .i64 kd, .int .i64 r, .int .i64 x, .int .i64 y, .int .i64 z, .nilslice, .int .i64 p1, .int .i64 p2, .int .i64 p3, .int .i64 q0, .int .i64 q1, .int .i64 q2, .int .i64 q3, .int .i64 M, .int .i64 vx, .int .i64 vy, .int .i64 vz, .int .i64 wx, .int .i64 wy, .int .i64 wz, .int .i64 rub], .agg [.int .i64 idnb, .int .i64 kdb, .int .i64 rb, .int .i64 xb, .int .i64 yb, .int .i64 zb, .slice 0 o2 n2 c2, .int .i64 p1b, .int .i64 p2b, .int .i64 p3b, .int .i64 q0b, .int .i64 q1b, .int .i64 q2b, .int .i64 q3b, .int .i64 Mb, .int .i64 vxb, .int .i64 vyb, .int .i64 vzb, .int .i64 wxb, .int .i64 wyb, .int .i64 wzb, .int .i64 rubb]] rfl (by simp) hq hr2', rfl, by first | rfl | (split <;> rfl), by first | rfl | (split <;> rfl), ?_⟩
            by_cases hn2 : (100 : Int) < n2
            · simp (maxSteps := 10000000) [Tryz.f3, hn2]
            have hct := eq_true (hlw.sh (by decide))
            obtain ⟨t0, t1, t2, t3, t4, t5, t6, t7, t8, t9, tA, tB, tC, tD, tE, tF, e, he⟩ := inV_is (idn := idn) (kd := kd) (r := r) (x := x) (y := y) (z := z) (p1 := p1) (p2 := p2) (p3 := p3) (q0 := q0) (q1 := q1) (q2 := q2) (q3 := q3) (M := M) (vx := vx) (vy := vy) (vz := vz) (wx := wx) (wy := wy) (wz := wz) (rub := rub) (n := 0) (f := fun _ => 0) ⟨j0, j1, j2, j3⟩
            simp (maxSteps := 10000000) [Tryz.f3, boInS, boCkS, boSameS, hct, he, hn2, hid, ip1, ip2, ip3, j0, j1, j2, j3, hM, v0, v1, v2, w0, w1, w2, hrub, hE2e]
        · obtain ⟨-, hnc1, i1, t1, hp, hr1', ⟨oo1, FF1, hrow1, hf1⟩, -⟩ := listE_slice e1
          rcases listE_cases e2 with ⟨rfl, rfl, rfl⟩ | ⟨p2', o2, c2, rfl⟩
          · have hE1' := listE_own hrow1 hf1 hnc1
            have hE1e := listE_ownE hrow1 hf1 hnc1
            refine ⟨_, _, _, .bool true, laid1 [.agg [.int .i64 idn, .int .i64 kd, .int .i64 r, .int .i64 x, .int .i64 y, .int .i64 z, .slice 0 o1 n1 c1, .int .i64 p1, .int .i64 p2, .int .i64 p3, .int .i64 q0, .int .i64 q1, .int .i64 q2, .int .i64 q3, .int .i64 M, .int .i64 vx, .int .i64 vy, .int .i64 vz, .int .i64 wx, .int .i64 wy, .int .i64 wz, .int .i64 rub], .agg [.int .i64 idnb, .int .i64 kdb, .int .i64 rb, .int .i64 xb, .int .i64 yb, .int .i64 zb, .nilslice, .int .i64 p1b, .int .i64 p2b, .int .i64 p3b, .int .i64 q0b, .int .i64 q1b, .int .i64 q2b, .int .i64 q3b, .int .i64 Mb, .int .i64 vxb, .int .i64 vyb, .int .i64 vzb, .int .i64 wxb, .int .i64 wyb, .int .i64 wzb, .int .i64 rubb]] rfl (by simp) hp hr1', rfl, by first | rfl | (split <;> rfl), by first | rfl | (split <;> rfl), ?_⟩
            by_cases hn1 : (100 : Int) < n1
            · simp (maxSteps := 10000000) [Tryz.f3, hn1]
            have hct := eq_true (hlw.sh hn1)
            have h7 : n1 ≤ 256 := by omega
            obtain ⟨t0, t1, t2, t3, t4, t5, t6, t7, t8, t9, tA, tB, tC, tD, tE, tF, e, he⟩ := inV_is (idn := idn) (kd := kd) (r := r) (x := x) (y := y) (z := z) (p1 := p1) (p2 := p2) (p3 := p3) (q0 := q0) (q1 := q1) (q2 := q2) (q3 := q3) (M := M) (vx := vx) (vy := vy) (vz := vz) (wx := wx) (wy := wy) (wz := wz) (rub := rub) (n := n1) (f := f1) ⟨j0, j1, j2, j3⟩
            simp (maxSteps := 10000000) [Tryz.f3, boInS, boCkS, boSameS, hct, he, hn1, h7, hid, ip1, ip2, ip3, j0, j1, j2, j3, hM, v0, v1, v2, w0, w1, w2, hrub, hE1', hE1e]
          · obtain ⟨-, hnc2, i2, t2, hq, hr2', ⟨oo2, FF2, hrow2, hf2⟩, -⟩ := listE_slice e2
            by_cases hpq : p1' = p2'
            · subst hpq
              rw [hp] at hq
              cases hq
              have hE1' := listE_own hrow1 hf1 hnc1
              have hE2' := listE_own hrow2 hf2 hnc2
              have hE1e := listE_ownE hrow1 hf1 hnc1
              have hE2e := listE_ownE hrow2 hf2 hnc2
              refine ⟨_, _, _, .bool true, laid1 [.agg [.int .i64 idn, .int .i64 kd, .int .i64 r, .int .i64 x, .int .i64 y, .int .i64 z, .slice 0 o1 n1 c1, .int .i64 p1, .int .i64 p2, .int .i64 p3, .int .i64 q0, .int .i64 q1, .int .i64 q2, .int .i64 q3, .int .i64 M, .int .i64 vx, .int .i64 vy, .int .i64 vz, .int .i64 wx, .int .i64 wy, .int .i64 wz, .int .i64 rub], .agg [.int .i64 idnb, .int .i64 kdb, .int .i64 rb, .int .i64 xb, .int .i64 yb, .int .i64 zb, .slice 0 o2 n2 c2, .int .i64 p1b, .int .i64 p2b, .int .i64 p3b, .int .i64 q0b, .int .i64 q1b, .int .i64 q2b, .int .i64 q3b, .int .i64 Mb, .int .i64 vxb, .int .i64 vyb, .int .i64 vzb, .int .i64 wxb, .int .i64 wyb, .int .i64 wzb, .int .i64 rubb]] rfl (by simp) hp hr1', rfl, by first | rfl | (split <;> rfl), by first | rfl | (split <;> rfl), ?_⟩
              by_cases hn1 : (100 : Int) < n1
              · simp (maxSteps := 10000000) [Tryz.f3, hn1]
              by_cases hn2 : (100 : Int) < n2
              · simp (maxSteps := 10000000) [Tryz.f3, hn1, hn2]
              have hct := eq_true (hlw.sh hn1)
              have h7 : n1 ≤ 256 := by omega
              obtain ⟨t0, t1, t2, t3, t4, t5, t6, t7, t8, t9, tA, tB, tC, tD, tE, tF, e, he⟩ := inV_is (idn := idn) (kd := kd) (r := r) (x := x) (y := y) (z := z) (p1 := p1) (p2 := p2) (p3 := p3) (q0 := q0) (q1 := q1) (q2 := q2) (q3 := q3) (M := M) (vx := vx) (vy := vy) (vz := vz) (wx := wx) (wy := wy) (wz := wz) (rub := rub) (n := n1) (f := f1) ⟨j0, j1, j2, j3⟩
              simp (maxSteps := 10000000) [Tryz.f3, boInS, boCkS, boSameS, hct, he, hn1, hn2, h7, hid, ip1, ip2, ip3, j0, j1, j2, j3, hM, v0, v1, v2, w0, w1, w2, hrub, hE1', hE1e, hE2e]
            · have hE1' := listE_own hrow1 hf1 hnc1
              have hE2' : ∀ (ts : List AV) (b : Blk) (x : List Blk) (df : List (FuncId × List AV)), listE (St.mem ⟨ts, b :: (⟨i2, t2⟩ : Blk) :: x, df⟩) (.slice 1 o2 n2 c2) = some (n2, f2) := fun _ _ _ _ => listE_at rfl hrow2 hf2 hnc2
              have hE1e := listE_ownE hrow1 hf1 hnc1
              have hE2e : ∀ (ts : List AV) (b : Blk) (x : List Blk) (df : List (FuncId × List AV)) (l : List Nat), 1 ∈ l → listE (envOf (St.mem ⟨ts, b :: (⟨i2, t2⟩ : Blk) :: x, df⟩) l) (.slice 1 o2 n2 c2) = some (n2, f2) := fun _ _ _ _ l h => listE_at (by rw [envOf_app, if_pos h]; rfl) hrow2 hf2 hnc2
              refine ⟨_, _, _, .bool true, laid2 [.agg [.int .i64 idn, .int .i64 kd, .int .i64 r, .int .i64 x, .int .i64 y, .int .i64 z, .slice 0 o1 n1 c1, .int .i64 p1, .int .i64 p2, .int .i64 p3, .int .i64 q0, .int .i64 q1, .int .i64 q2, .int .i64 q3, .int .i64 M, .int .i64 vx, .int .i64 vy, .int .i64 vz, .int .i64 wx, .int .i64 wy, .int .i64 wz, .int .i64 rub], .agg [.int .i64 idnb, .int .i64 kdb, .int .i64 rb, .int .i64 xb, .int .i64 yb, .int .i64 zb, .slice 1 o2 n2 c2, .int .i64 p1b, .int .i64 p2b, .int .i64 p3b, .int .i64 q0b, .int .i64 q1b, .int .i64 q2b, .int .i64 q3b, .int .i64 Mb, .int .i64 vxb, .int .i64 vyb, .int .i64 vzb, .int .i64 wxb, .int .i64 wyb, .int .i64 wzb, .int .i64 rubb]] rfl (by simp) hp hq hpq hr1' hr2', rfl, by first | rfl | (split <;> rfl), by first | rfl | (split <;> rfl), ?_⟩
              by_cases hn1 : (100 : Int) < n1
              · simp (maxSteps := 10000000) [Tryz.f3, hn1]; try exact two_same
              by_cases hn2 : (100 : Int) < n2
              · simp (maxSteps := 10000000) [Tryz.f3, hn1, hn2]; try exact two_same
              have hct := eq_true (hlw.sh hn1)
              have h7 : n1 ≤ 256 := by omega
              obtain ⟨t0, t1, t2, t3, t4, t5, t6, t7, t8, t9, tA, tB, tC, tD, tE, tF, e, he⟩ := inV_is (idn := idn) (kd := kd) (r := r) (x := x) (y := y) (z := z) (p1 := p1) (p2 := p2) (p3 := p3) (q0 := q0) (q1 := q1) (q2 := q2) (q3 := q3) (M := M) (vx := vx) (vy := vy) (vz := vz) (wx := wx) (wy := wy) (wz := wz) (rub := rub) (n := n1) (f := f1) ⟨j0, j1, j2, j3⟩
              simp (maxSteps := 10000000) [Tryz.f3, boInS, boCkS, boSameS, hct, he, hn1, hn2, h7, hid, ip1, ip2, ip3, j0, j1, j2, j3, hM, v0, v1, v2, w0, w1, w2, hrub, hE1', hE1e, hE2e]; try exact two_same
      · simp [*] at h
    · simp [*] at h
  · simp at h
end Go.X
