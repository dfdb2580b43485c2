/- How a body resists. -/
import Derived.Test.YtpojeehijepmhaaGreatGI
import Derived.Test.YtpojeehijepmhaaGreatJS6
import Derived.Test.YtpojeehijepmhaaGreatJUM
namespace Go.X
open Go.Proofs
attribute [local irreducible] Good
attribute [simp] Tryz.T_41
noncomputable def turL (x y z q0 q1 q2 q3 : Int) : List AV := match mTurnS [.agg [.int .i64 x, .int .i64 y, .int .i64 z], .agg [.int .i64 q0, .int .i64 q1, .int .i64 q2, .int .i64 q3]] with
  | .val (.tup [.agg l, _]) => l
  | _ => []
theorem turL_is {x y z q0 q1 q2 q3 : Int} (h : InI x ∧ InI y ∧ InI z ∧ InI q0 ∧ InI q1 ∧ InI q2 ∧ InI q3) (tt : TurnP q0 q1 q2 q3) :
    ∃ j0 j1 j2 j3 j4 j5 j6 j7 j8 : Int, mTurnS [.agg [.int .i64 x, .int .i64 y, .int .i64 z], .agg [.int .i64 q0, .int .i64 q1, .int .i64 q2, .int .i64 q3]] = .val (.tup [.agg [.int .i64 j0, .int .i64 j1, .int .i64 j2, .int .i64 j3, .int .i64 j4, .int .i64 j5, .int .i64 j6, .int .i64 j7, .int .i64 j8], .int .i64 0]) ∧
      turL x y z q0 q1 q2 q3 = [.int .i64 j0, .int .i64 j1, .int .i64 j2, .int .i64 j3, .int .i64 j4, .int .i64 j5, .int .i64 j6, .int .i64 j7, .int .i64 j8] := by
  have e := mTurnS_val h
  rw [if_pos tt] at e
  refine ⟨_, _, _, _, _, _, _, _, _, e, ?_⟩
  unfold turL
  rw [e]
noncomputable def moS (kd r x y z : Int) (n : Nat) (f : Nat → Int) (m : Int) (a b : Nat) : Int := momI m (hfI kd r x y z n f a) (hfI kd r x y z n f b)
noncomputable def inV (idn kd r x y z p1 p2 p3 q0 q1 q2 q3 M vx vy vz wx wy wz rub : Int) (n : Nat) (f : Nat → Int) : AV :=
  if boI idn kd r x y z n f p1 p2 p3 q0 q1 q2 q3 M vx vy vz wx wy wz rub = 0 then (if M = 0 then .tup [.agg [.int .i64 0, .int .i64 0, .int .i64 0, .int .i64 0, .int .i64 0, .int .i64 0, .int .i64 0, .int .i64 0, .int .i64 0, .int .i64 0, .int .i64 0, .int .i64 0, .int .i64 0, .int .i64 0, .int .i64 0, .int .i64 0], .int .i64 0] else .tup [.agg (.int .i64 (backI M) :: (turL (backI (moS kd r x y z n f M 1 2)) (backI (moS kd r x y z n f M 0 2)) (backI (moS kd r x y z n f M 0 1)) q0 q1 q2 q3 ++ [.int .i64 vx, .int .i64 vy, .int .i64 vz, .int .i64 wx, .int .i64 wy, .int .i64 wz])), .int .i64 0]) else .tup [.agg [.int .i64 0, .int .i64 0, .int .i64 0, .int .i64 0, .int .i64 0, .int .i64 0, .int .i64 0, .int .i64 0, .int .i64 0, .int .i64 0, .int .i64 0, .int .i64 0, .int .i64 0, .int .i64 0, .int .i64 0, .int .i64 0], .int .i64 (boI idn kd r x y z n f p1 p2 p3 q0 q1 q2 q3 M vx vy vz wx wy wz rub)]
noncomputable def boInS : Sum := fun args env _ => match args with
  | [.agg [.int .i64 idn, .int .i64 kd, .int .i64 r, .int .i64 x, .int .i64 y, .int .i64 z, l, .int .i64 p1, .int .i64 p2, .int .i64 p3, .int .i64 q0, .int .i64 q1, .int .i64 q2, .int .i64 q3, .int .i64 M, .int .i64 vx, .int .i64 vy, .int .i64 vz, .int .i64 wx, .int .i64 wy, .int .i64 wz, .int .i64 rub]] => match listE env l with
    | some (n, f) => open Classical in if (InI idn ∧ (InI p1 ∧ InI p2 ∧ InI p3 ∧ InI q0 ∧ InI q1 ∧ InI q2 ∧ InI q3) ∧ (InI M ∧ (InI vx ∧ InI vy ∧ InI vz) ∧ (InI wx ∧ InI wy ∧ InI wz)) ∧ InI rub) ∧ ShP kd r x y z n f then .val (inV idn kd r x y z p1 p2 p3 q0 q1 q2 q3 M vx vy vz wx wy wz rub n f) [] [] else .fail
    | none => .fail
  | _ => .fail
theorem bo_parts {idn kd r x y z p1 p2 p3 q0 q1 q2 q3 M vx vy vz wx wy wz rub : Int} {n : Nat} {f : Nat → Int} (h : boI idn kd r x y z n f p1 p2 p3 q0 q1 q2 q3 M vx vy vz wx wy wz rub = 0) : (1 ≤ idn ∧ idn ≤ 4096) ∧ thI kd r x y z n f p1 p2 p3 q0 q1 q2 q3 = 0 ∧ FineP M vx vy vz wx wy wz ∧ 0 ≤ rub ∧ rub ≤ 17179869184 := by
  unfold boI at h
  split at h
  · omega
  · rename_i d
    split at h
    · rename_i th
      split at h
      · rename_i g
        exact ⟨by omega, th, g⟩
      · omega
    · rename_i th; exact absurd h th
theorem th_parts {kd r x y z p1 p2 p3 q0 q1 q2 q3 : Int} {n : Nat} {f : Nat → Int} (h : thI kd r x y z n f p1 p2 p3 q0 q1 q2 q3 = 0) : Place p1 p2 p3 ∧ TurnP q0 q1 q2 q3 ∧ ckI kd r x y z n f = 0 := by
  unfold thI at h
  split at h
  · rename_i pl
    split at h
    · rename_i tt; exact ⟨pl, tt, h⟩
    · omega
  · omega
theorem inV_is {idn kd r x y z p1 p2 p3 q0 q1 q2 q3 M vx vy vz wx wy wz rub : Int} {n : Nat} {f : Nat → Int} (hI : InI q0 ∧ InI q1 ∧ InI q2 ∧ InI q3) : ∃ t0 t1 t2 t3 t4 t5 t6 t7 t8 t9 tA tB tC tD tE tF e : Int, inV idn kd r x y z p1 p2 p3 q0 q1 q2 q3 M vx vy vz wx wy wz rub n f = .tup [.agg [.int .i64 t0, .int .i64 t1, .int .i64 t2, .int .i64 t3, .int .i64 t4, .int .i64 t5, .int .i64 t6, .int .i64 t7, .int .i64 t8, .int .i64 t9, .int .i64 tA, .int .i64 tB, .int .i64 tC, .int .i64 tD, .int .i64 tE, .int .i64 tF], .int .i64 e] := by
  unfold inV
  by_cases bo : boI idn kd r x y z n f p1 p2 p3 q0 q1 q2 q3 M vx vy vz wx wy wz rub = 0
  · rw [if_pos bo]
    by_cases m0 : M = 0
    · rw [if_pos m0]
      exact ⟨_, _, _, _, _, _, _, _, _, _, _, _, _, _, _, _, _, rfl⟩
    · rw [if_neg m0]
      obtain ⟨-, th, -, -⟩ := bo_parts bo
      obtain ⟨-, tt, -⟩ := th_parts th
      obtain ⟨t0, t1, t2, t3, t4, t5, t6, t7, t8, -, tl⟩ := turL_is ⟨@backI_in (moS kd r x y z n f M 1 2), @backI_in (moS kd r x y z n f M 0 2), @backI_in (moS kd r x y z n f M 0 1), hI⟩ tt
      rw [tl]
      exact ⟨_, _, _, _, _, _, _, _, _, _, _, _, _, _, _, _, _, rfl⟩
  · rw [if_neg bo]
    exact ⟨_, _, _, _, _, _, _, _, _, _, _, _, _, _, _, _, _, rfl⟩
theorem inV_ok {idn kd r x y z p1 p2 p3 q0 q1 q2 q3 M vx vy vz wx wy wz rub : Int} {n : Nat} {f : Nat → Int} (hI : InI q0 ∧ InI q1 ∧ InI q2 ∧ InI q3) : okv (inV idn kd r x y z p1 p2 p3 q0 q1 q2 q3 M vx vy vz wx wy wz rub n f) = true ∧ refs (inV idn kd r x y z p1 p2 p3 q0 q1 q2 q3 M vx vy vz wx wy wz rub n f) = [] := by
  obtain ⟨t0, t1, t2, t3, t4, t5, t6, t7, t8, t9, tA, tB, tC, tD, tE, tF, e, he⟩ := inV_is (idn := idn) (kd := kd) (r := r) (x := x) (y := y) (z := z) (p1 := p1) (p2 := p2) (p3 := p3) (q0 := q0) (q1 := q1) (q2 := q2) (q3 := q3) (M := M) (vx := vx) (vy := vy) (vz := vz) (wx := wx) (wy := wy) (wz := wz) (rub := rub) (n := n) (f := f) hI
  rw [he]
  exact ⟨rfl, rfl⟩
set_option maxHeartbeats 400000000 in
set_option maxRecDepth 100000 in
theorem boIn_ok : SumOk Tryz.prog 5 boInS := by
  refine sum_read (L := fun _ => none) (n := 1) (S := stOf [(7, boCkS), (14, mvFixS), (15, mOfBS), (16, pureS mBackS), (17, pureS mTurnS)]) drawS Tryz.T_ok (stOf_ok (by simp [boCk_ok, mvFix_ok, mOfB_ok, mBack_ok, mTurn_ok])) Tryz.func5 rfl (by kernel_rfl) (by kernel_rfl) ?_
  intro args env nxt h
  unfold boInS at h ⊢
  split at h
  · rename_i idn kd r x y z l p1 p2 p3 q0 q1 q2 q3 M vx vy vz wx wy wz rub
    split at h
    · rename_i n f hl
      split at h
      · rename_i hc
        simp only [if_pos hc]
        obtain ⟨⟨hid, ⟨i1, i2, i3, j0, j1, j2, j3⟩, ⟨hM, ⟨v0, v1, v2⟩, w0, w1, w2⟩, hrub⟩, -⟩ := id hc
        rcases laid_shape (fun l => [.agg [.int .i64 idn, .int .i64 kd, .int .i64 r, .int .i64 x, .int .i64 y, .int .i64 z, l, .int .i64 p1, .int .i64 p2, .int .i64 p3, .int .i64 q0, .int .i64 q1, .int .i64 q2, .int .i64 q3, .int .i64 M, .int .i64 vx, .int .i64 vy, .int .i64 vz, .int .i64 wx, .int .i64 wy, .int .i64 wz, .int .i64 rub]]) hl (fun _ _ => rfl) (fun l => by simp) with ⟨rfl, rfl, rfl, hlaid⟩ | ⟨p, o1, c, items, ty, rfl, hlaid, hnc, hr', ⟨o, F, hrow, hf⟩, hE, hE2, hload⟩
        · refine ⟨_, _, _, (inV idn kd r x y z p1 p2 p3 q0 q1 q2 q3 M vx vy vz wx wy wz rub 0 (fun _ => 0)), hlaid, rfl, (inV_ok ⟨j0, j1, j2, j3⟩).1, (inV_ok ⟨j0, j1, j2, j3⟩).2, ?_⟩
          have hct := eq_true hc.2
          by_cases bo : boI idn kd r x y z 0 (fun _ => 0) p1 p2 p3 q0 q1 q2 q3 M vx vy vz wx wy wz rub = 0
          · obtain ⟨d1, th, fi, -⟩ := bo_parts bo
            obtain ⟨pl, tt, ck⟩ := th_parts th
            by_cases m0 : M = 0
            · have e : inV idn kd r x y z p1 p2 p3 q0 q1 q2 q3 M vx vy vz wx wy wz rub 0 (fun _ => 0) = .tup [.agg [.int .i64 0, .int .i64 0, .int .i64 0, .int .i64 0, .int .i64 0, .int .i64 0, .int .i64 0, .int .i64 0, .int .i64 0, .int .i64 0, .int .i64 0, .int .i64 0, .int .i64 0, .int .i64 0, .int .i64 0, .int .i64 0], .int .i64 0] := by unfold inV; rw [if_pos bo, if_pos m0]
              rw [e]
              subst m0
              unfold FineP at fi
              rw [if_pos rfl] at fi
              obtain ⟨⟨rfl, rfl, rfl⟩, rfl, rfl, rfl⟩ := fi
              simp (maxSteps := 10000000) [Tryz.f5, boCkS, mvFixS, hct, hid, i1, i2, i3, j0, j1, j2, j3, hM, hrub, bo]
            · unfold FineP at fi
              rw [if_neg m0] at fi
              obtain ⟨⟨l1, l2⟩, -⟩ := fi
              have b0 : InI (moS kd r x y z 0 (fun _ => 0) M 1 2) := momI_in
              have b1 : InI (moS kd r x y z 0 (fun _ => 0) M 0 2) := momI_in
              have b2 : InI (moS kd r x y z 0 (fun _ => 0) M 0 1) := momI_in
              have c0 := @backI_in (moS kd r x y z 0 (fun _ => 0) M 1 2)
              have c1 := @backI_in (moS kd r x y z 0 (fun _ => 0) M 0 2)
              have c2 := @backI_in (moS kd r x y z 0 (fun _ => 0) M 0 1)
              obtain ⟨t0, t1, t2, t3, t4, t5, t6, t7, t8, te, tl⟩ := turL_is ⟨c0, c1, c2, j0, j1, j2, j3⟩ tt
              have e : inV idn kd r x y z p1 p2 p3 q0 q1 q2 q3 M vx vy vz wx wy wz rub 0 (fun _ => 0) = .tup [.agg [.int .i64 (backI M), .int .i64 t0, .int .i64 t1, .int .i64 t2, .int .i64 t3, .int .i64 t4, .int .i64 t5, .int .i64 t6, .int .i64 t7, .int .i64 t8, .int .i64 vx, .int .i64 vy, .int .i64 vz, .int .i64 wx, .int .i64 wy, .int .i64 wz], .int .i64 0] := by unfold inV; rw [if_pos bo, if_neg m0, tl]; rfl
              rw [e]
              unfold moS at te b0 b1 b2
              simp (maxSteps := 10000000) [Tryz.f5, boCkS, mvFixS, mOfBS, hct, hid, i1, i2, i3, j0, j1, j2, j3, hM, v0, v1, v2, w0, w1, w2, hrub, bo, m0, ck, l1, l2, b0, b1, b2, te, -mTurnS_val]
          · have e : inV idn kd r x y z p1 p2 p3 q0 q1 q2 q3 M vx vy vz wx wy wz rub 0 (fun _ => 0) = .tup [.agg [.int .i64 0, .int .i64 0, .int .i64 0, .int .i64 0, .int .i64 0, .int .i64 0, .int .i64 0, .int .i64 0, .int .i64 0, .int .i64 0, .int .i64 0, .int .i64 0, .int .i64 0, .int .i64 0, .int .i64 0, .int .i64 0], .int .i64 (boI idn kd r x y z 0 (fun _ => 0) p1 p2 p3 q0 q1 q2 q3 M vx vy vz wx wy wz rub)] := by unfold inV; rw [if_neg bo]
            rw [e]
            simp (maxSteps := 10000000) [Tryz.f5, boCkS, hct, hid, i1, i2, i3, j0, j1, j2, j3, hM, v0, v1, v2, w0, w1, w2, hrub, bo]
        · refine ⟨_, _, _, (inV idn kd r x y z p1 p2 p3 q0 q1 q2 q3 M vx vy vz wx wy wz rub n f), hlaid, rfl, (inV_ok ⟨j0, j1, j2, j3⟩).1, (inV_ok ⟨j0, j1, j2, j3⟩).2, ?_⟩
          have hct := eq_true hc.2
          by_cases bo : boI idn kd r x y z n f p1 p2 p3 q0 q1 q2 q3 M vx vy vz wx wy wz rub = 0
          · obtain ⟨d1, th, fi, -⟩ := bo_parts bo
            obtain ⟨pl, tt, ck⟩ := th_parts th
            by_cases m0 : M = 0
            · have e : inV idn kd r x y z p1 p2 p3 q0 q1 q2 q3 M vx vy vz wx wy wz rub n f = .tup [.agg [.int .i64 0, .int .i64 0, .int .i64 0, .int .i64 0, .int .i64 0, .int .i64 0, .int .i64 0, .int .i64 0, .int .i64 0, .int .i64 0, .int .i64 0, .int .i64 0, .int .i64 0, .int .i64 0, .int .i64 0, .int .i64 0], .int .i64 0] := by unfold inV; rw [if_pos bo, if_pos m0]
              rw [e]
              subst m0
              unfold FineP at fi
              rw [if_pos rfl] at fi
              obtain ⟨⟨rfl, rfl, rfl⟩, rfl, rfl, rfl⟩ := fi
              simp (maxSteps := 10000000) [Tryz.f5, boCkS, mvFixS, hct, hid, i1, i2, i3, j0, j1, j2, j3, hM, hrub, hE, bo]
            · unfold FineP at fi
              rw [if_neg m0] at fi
              obtain ⟨⟨l1, l2⟩, -⟩ := fi
              have b0 : InI (moS kd r x y z n f M 1 2) := momI_in
              have b1 : InI (moS kd r x y z n f M 0 2) := momI_in
              have b2 : InI (moS kd r x y z n f M 0 1) := momI_in
              have c0 := @backI_in (moS kd r x y z n f M 1 2)
              have c1 := @backI_in (moS kd r x y z n f M 0 2)
              have c2 := @backI_in (moS kd r x y z n f M 0 1)
              obtain ⟨t0, t1, t2, t3, t4, t5, t6, t7, t8, te, tl⟩ := turL_is ⟨c0, c1, c2, j0, j1, j2, j3⟩ tt
              have e : inV idn kd r x y z p1 p2 p3 q0 q1 q2 q3 M vx vy vz wx wy wz rub n f = .tup [.agg [.int .i64 (backI M), .int .i64 t0, .int .i64 t1, .int .i64 t2, .int .i64 t3, .int .i64 t4, .int .i64 t5, .int .i64 t6, .int .i64 t7, .int .i64 t8, .int .i64 vx, .int .i64 vy, .int .i64 vz, .int .i64 wx, .int .i64 wy, .int .i64 wz], .int .i64 0] := by unfold inV; rw [if_pos bo, if_neg m0, tl]; rfl
              rw [e]
              unfold moS at te b0 b1 b2
              simp (maxSteps := 10000000) [Tryz.f5, boCkS, mvFixS, mOfBS, hct, hid, i1, i2, i3, j0, j1, j2, j3, hM, v0, v1, v2, w0, w1, w2, hrub, hE, bo, m0, ck, l1, l2, b0, b1, b2, te, -mTurnS_val]
          · have e : inV idn kd r x y z p1 p2 p3 q0 q1 q2 q3 M vx vy vz wx wy wz rub n f = .tup [.agg [.int .i64 0, .int .i64 0, .int .i64 0, .int .i64 0, .int .i64 0, .int .i64 0, .int .i64 0, .int .i64 0, .int .i64 0, .int .i64 0, .int .i64 0, .int .i64 0, .int .i64 0, .int .i64 0, .int .i64 0, .int .i64 0], .int .i64 (boI idn kd r x y z n f p1 p2 p3 q0 q1 q2 q3 M vx vy vz wx wy wz rub)] := by unfold inV; rw [if_neg bo]
            rw [e]
            simp (maxSteps := 10000000) [Tryz.f5, boCkS, hct, hid, i1, i2, i3, j0, j1, j2, j3, hM, v0, v1, v2, w0, w1, w2, hrub, hE, bo]
      · simp [*] at h
    · simp [*] at h
  · simp at h
set_option maxHeartbeats 400000000 in
set_option maxRecDepth 100000 in
theorem r24In_ok : SumOk Tryz.prog 6 boInS := by
  refine sum_read (L := fun _ => none) (n := 1) (S := stOf [(8, boCkS), (18, mOfBS), (19, pureS r10BackS), (20, pureS mTurnS)]) drawS Tryz.T_ok (stOf_ok (by simp [r24Ck_ok, r10of_ok, r10Back_ok, r10Turn_ok])) Tryz.func6 rfl (by kernel_rfl) (by kernel_rfl) ?_
  intro args env nxt h
  unfold boInS at h ⊢
  split at h
  · rename_i idn kd r x y z l p1 p2 p3 q0 q1 q2 q3 M vx vy vz wx wy wz rub
    split at h
    · rename_i n f hl
      split at h
      · rename_i hc
        simp only [if_pos hc]
        obtain ⟨⟨hid, ⟨i1, i2, i3, j0, j1, j2, j3⟩, ⟨hM, ⟨v0, v1, v2⟩, w0, w1, w2⟩, hrub⟩, -⟩ := id hc
        rcases laid_shape (fun l => [.agg [.int .i64 idn, .int .i64 kd, .int .i64 r, .int .i64 x, .int .i64 y, .int .i64 z, l, .int .i64 p1, .int .i64 p2, .int .i64 p3, .int .i64 q0, .int .i64 q1, .int .i64 q2, .int .i64 q3, .int .i64 M, .int .i64 vx, .int .i64 vy, .int .i64 vz, .int .i64 wx, .int .i64 wy, .int .i64 wz, .int .i64 rub]]) hl (fun _ _ => rfl) (fun l => by simp) with ⟨rfl, rfl, rfl, hlaid⟩ | ⟨p, o1, c, items, ty, rfl, hlaid, hnc, hr', ⟨o, F, hrow, hf⟩, hE, hE2, hload⟩
        · refine ⟨_, _, _, (inV idn kd r x y z p1 p2 p3 q0 q1 q2 q3 M vx vy vz wx wy wz rub 0 (fun _ => 0)), hlaid, rfl, (inV_ok ⟨j0, j1, j2, j3⟩).1, (inV_ok ⟨j0, j1, j2, j3⟩).2, ?_⟩
          have hct := eq_true hc.2
          by_cases bo : boI idn kd r x y z 0 (fun _ => 0) p1 p2 p3 q0 q1 q2 q3 M vx vy vz wx wy wz rub = 0
          · obtain ⟨d1, th, fi, -⟩ := bo_parts bo
            obtain ⟨pl, tt, ck⟩ := th_parts th
            by_cases m0 : M = 0
            · have e : inV idn kd r x y z p1 p2 p3 q0 q1 q2 q3 M vx vy vz wx wy wz rub 0 (fun _ => 0) = .tup [.agg [.int .i64 0, .int .i64 0, .int .i64 0, .int .i64 0, .int .i64 0, .int .i64 0, .int .i64 0, .int .i64 0, .int .i64 0, .int .i64 0, .int .i64 0, .int .i64 0, .int .i64 0, .int .i64 0, .int .i64 0, .int .i64 0], .int .i64 0] := by unfold inV; rw [if_pos bo, if_pos m0]
              rw [e]
              subst m0
              unfold FineP at fi
              rw [if_pos rfl] at fi
              obtain ⟨⟨rfl, rfl, rfl⟩, rfl, rfl, rfl⟩ := fi
              simp (maxSteps := 10000000) [Tryz.f6, boCkS, hct, hid, i1, i2, i3, j0, j1, j2, j3, hM, hrub, bo]
            · unfold FineP at fi
              rw [if_neg m0] at fi
              obtain ⟨⟨l1, l2⟩, -⟩ := fi
              have b0 : InI (moS kd r x y z 0 (fun _ => 0) M 1 2) := momI_in
              have b1 : InI (moS kd r x y z 0 (fun _ => 0) M 0 2) := momI_in
              have b2 : InI (moS kd r x y z 0 (fun _ => 0) M 0 1) := momI_in
              have c0 := @backI_in (moS kd r x y z 0 (fun _ => 0) M 1 2)
              have c1 := @backI_in (moS kd r x y z 0 (fun _ => 0) M 0 2)
              have c2 := @backI_in (moS kd r x y z 0 (fun _ => 0) M 0 1)
              obtain ⟨t0, t1, t2, t3, t4, t5, t6, t7, t8, te, tl⟩ := turL_is ⟨c0, c1, c2, j0, j1, j2, j3⟩ tt
              have e : inV idn kd r x y z p1 p2 p3 q0 q1 q2 q3 M vx vy vz wx wy wz rub 0 (fun _ => 0) = .tup [.agg [.int .i64 (backI M), .int .i64 t0, .int .i64 t1, .int .i64 t2, .int .i64 t3, .int .i64 t4, .int .i64 t5, .int .i64 t6, .int .i64 t7, .int .i64 t8, .int .i64 vx, .int .i64 vy, .int .i64 vz, .int .i64 wx, .int .i64 wy, .int .i64 wz], .int .i64 0] := by unfold inV; rw [if_pos bo, if_neg m0, tl]; rfl
              rw [e]
              unfold moS at te b0 b1 b2
              simp (maxSteps := 10000000) [Tryz.f6, boCkS, mOfBS, hct, hid, i1, i2, i3, j0, j1, j2, j3, hM, v0, v1, v2, w0, w1, w2, hrub, bo, m0, ck, l1, l2, b0, b1, b2, te, -mTurnS_val]
          · have e : inV idn kd r x y z p1 p2 p3 q0 q1 q2 q3 M vx vy vz wx wy wz rub 0 (fun _ => 0) = .tup [.agg [.int .i64 0, .int .i64 0, .int .i64 0, .int .i64 0, .int .i64 0, .int .i64 0, .int .i64 0, .int .i64 0, .int .i64 0, .int .i64 0, .int .i64 0, .int .i64 0, .int .i64 0, .int .i64 0, .int .i64 0, .int .i64 0], .int .i64 (boI idn kd r x y z 0 (fun _ => 0) p1 p2 p3 q0 q1 q2 q3 M vx vy vz wx wy wz rub)] := by unfold inV; rw [if_neg bo]
            rw [e]
            simp (maxSteps := 10000000) [Tryz.f6, boCkS, hct, hid, i1, i2, i3, j0, j1, j2, j3, hM, v0, v1, v2, w0, w1, w2, hrub, bo]
        · refine ⟨_, _, _, (inV idn kd r x y z p1 p2 p3 q0 q1 q2 q3 M vx vy vz wx wy wz rub n f), hlaid, rfl, (inV_ok ⟨j0, j1, j2, j3⟩).1, (inV_ok ⟨j0, j1, j2, j3⟩).2, ?_⟩
          have hct := eq_true hc.2
          by_cases bo : boI idn kd r x y z n f p1 p2 p3 q0 q1 q2 q3 M vx vy vz wx wy wz rub = 0
          · obtain ⟨d1, th, fi, -⟩ := bo_parts bo
            obtain ⟨pl, tt, ck⟩ := th_parts th
            by_cases m0 : M = 0
            · have e : inV idn kd r x y z p1 p2 p3 q0 q1 q2 q3 M vx vy vz wx wy wz rub n f = .tup [.agg [.int .i64 0, .int .i64 0, .int .i64 0, .int .i64 0, .int .i64 0, .int .i64 0, .int .i64 0, .int .i64 0, .int .i64 0, .int .i64 0, .int .i64 0, .int .i64 0, .int .i64 0, .int .i64 0, .int .i64 0, .int .i64 0], .int .i64 0] := by unfold inV; rw [if_pos bo, if_pos m0]
              rw [e]
              subst m0
              unfold FineP at fi
              rw [if_pos rfl] at fi
              obtain ⟨⟨rfl, rfl, rfl⟩, rfl, rfl, rfl⟩ := fi
              simp (maxSteps := 10000000) [Tryz.f6, boCkS, hct, hid, i1, i2, i3, j0, j1, j2, j3, hM, hrub, hE, bo]
            · unfold FineP at fi
              rw [if_neg m0] at fi
              obtain ⟨⟨l1, l2⟩, -⟩ := fi
              have b0 : InI (moS kd r x y z n f M 1 2) := momI_in
              have b1 : InI (moS kd r x y z n f M 0 2) := momI_in
              have b2 : InI (moS kd r x y z n f M 0 1) := momI_in
              have c0 := @backI_in (moS kd r x y z n f M 1 2)
              have c1 := @backI_in (moS kd r x y z n f M 0 2)
              have c2 := @backI_in (moS kd r x y z n f M 0 1)
              obtain ⟨t0, t1, t2, t3, t4, t5, t6, t7, t8, te, tl⟩ := turL_is ⟨c0, c1, c2, j0, j1, j2, j3⟩ tt
              have e : inV idn kd r x y z p1 p2 p3 q0 q1 q2 q3 M vx vy vz wx wy wz rub n f = .tup [.agg [.int .i64 (backI M), .int .i64 t0, .int .i64 t1, .int .i64 t2, .int .i64 t3, .int .i64 t4, .int .i64 t5, .int .i64 t6, .int .i64 t7, .int .i64 t8, .int .i64 vx, .int .i64 vy, .int .i64 vz, .int .i64 wx, .int .i64 wy, .int .i64 wz], .int .i64 0] := by unfold inV; rw [if_pos bo, if_neg m0, tl]; rfl
              rw [e]
              unfold moS at te b0 b1 b2
              simp (maxSteps := 10000000) [Tryz.f6, boCkS, mOfBS, hct, hid, i1, i2, i3, j0, j1, j2, j3, hM, v0, v1, v2, w0, w1, w2, hrub, hE, bo, m0, ck, l1, l2, b0, b1, b2, te, -mTurnS_val]
          · have e : inV idn kd r x y z p1 p2 p3 q0 q1 q2 q3 M vx vy vz wx wy wz rub n f = .tup [.agg [.int .i64 0, .int .i64 0, .int .i64 0, .int .i64 0, .int .i64 0, .int .i64 0, .int .i64 0, .int .i64 0, .int .i64 0, .int .i64 0, .int .i64 0, .int .i64 0, .int .i64 0, .int .i64 0, .int .i64 0, .int .i64 0], .int .i64 (boI idn kd r x y z n f p1 p2 p3 q0 q1 q2 q3 M vx vy vz wx wy wz rub)] := by unfold inV; rw [if_neg bo]
            rw [e]
            simp (maxSteps := 10000000) [Tryz.f6, boCkS, hct, hid, i1, i2, i3, j0, j1, j2, j3, hM, v0, v1, v2, w0, w1, w2, hrub, hE, bo]
      · simp [*] at h
    · simp [*] at h
  · simp at h
end Go.X
