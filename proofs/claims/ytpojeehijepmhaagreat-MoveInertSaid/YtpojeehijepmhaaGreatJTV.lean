/- Some answers that the document fixes, of bodies that move. -/
import Derived.Test.YtpojeehijepmhaaGreatJTD
import Derived.Test.YtpojeehijepmhaaGreatGW
namespace Go.X
open Go.Proofs
attribute [local irreducible] Good
attribute [simp] Tryz.T_68
attribute [simp] Tryz.T_47
theorem ball_bo {vz : Int} (h : vz = 0 ∨ vz = -21474836480) : boI 1 1 4294967296 0 0 0 0 (fun _ => 0) 0 0 0 4294967296 0 0 0 4294967296 0 0 vz 0 0 0 0 = 0 := by
  have pl : Place 0 0 0 := by unfold Place; decide
  have tt : TurnP 4294967296 0 0 0 := by decide
  have ok : OkN 1 4294967296 0 0 0 := by unfold OkN MayN May1 Size3; decide
  have ck : ckI 1 4294967296 0 0 0 0 (fun _ => 0) = 0 := by rw [ck_nil, if_pos ok]
  have th : thI 1 4294967296 0 0 0 0 (fun _ => 0) 0 0 0 4294967296 0 0 0 = 0 := by unfold thI; rw [if_pos pl, if_pos tt, ck]
  have fi : FineP 4294967296 0 0 vz 0 0 0 := by rcases h with rfl | rfl <;> decide +kernel
  unfold boI
  rw [if_neg (by decide), if_pos th, if_pos ⟨fi, by decide, by decide⟩]
theorem ball_sh : ShP 1 4294967296 0 0 0 0 (fun _ => 0) = True := eq_true ⟨by decide, by decide, by decide, by decide, by decide, by decide, fun j hj => by omega⟩
noncomputable def chBS : List AV → PR
  | [.agg [.int .i64 idn, .int .i64 kd, .int .i64 r, .int .i64 x, .int .i64 y, .int .i64 z, .nilslice, .int .i64 p1, .int .i64 p2, .int .i64 p3, .int .i64 q0, .int .i64 q1, .int .i64 q2, .int .i64 q3, .int .i64 M, .int .i64 vx, .int .i64 vy, .int .i64 vz, .int .i64 wx, .int .i64 wy, .int .i64 wz, .int .i64 rub], .int .i64 t] => open Classical in if (idn = 1 ∧ kd = 1 ∧ r = 4294967296 ∧ x = 0 ∧ y = 0 ∧ z = 0 ∧ p1 = 0 ∧ p2 = 0 ∧ p3 = 0 ∧ q0 = 4294967296 ∧ q1 = 0 ∧ q2 = 0 ∧ q3 = 0 ∧ M = 4294967296 ∧ vx = 0 ∧ vy = 0 ∧ wx = 0 ∧ wy = 0 ∧ wz = 0 ∧ rub = 0) ∧ (vz = 0 ∨ vz = -21474836480) ∧ t = 2147483648 then .val (.int .i64 0) else .fail
  | _ => .fail
set_option maxHeartbeats 40000000 in
set_option maxRecDepth 100000 in
theorem chB_ok : SumOk Tryz.prog 27 (pureS chBS) := by
  refine sum_fn (L := fun _ => none) (n := 1) (S := stOf [(7, boCkS)]) drawS Tryz.T_ok (stOf_ok (by simp [boCk_ok])) Tryz.func27 rfl (by kernel_rfl) (by kernel_rfl) ?_
    (by intro args v h; unfold chBS at h; split at h <;> (try split at h) <;> simp at h)
  intro args v h
  unfold chBS at h
  split at h
  · rename_i idn kd r x y z p1 p2 p3 q0 q1 q2 q3 M vx vy vz wx wy wz rub t
    split at h
    · rename_i hc
      obtain ⟨⟨rfl, rfl, rfl, rfl, rfl, rfl, rfl, rfl, rfl, rfl, rfl, rfl, rfl, rfl, rfl, rfl, rfl, rfl, rfl, rfl⟩, hv, rfl⟩ := hc
      cases h
      refine ⟨by simp, by simp, by simp, ?_⟩
      have i1 : InI 4294967296 := by decide
      have i2 : InI 0 := by decide
      have i3 : InI 1 := by decide
      have i4 : InI 2147483648 := by decide
      have i5 : InI (-42949672960) := by decide
      have i6 : InI (-21474836480) := by decide
      have b1 := ball_bo hv
      have iv : InI vz := by unfold InI; omega
      simp (maxSteps := 10000000) [Tryz.f27, boCkS, ball_sh, b1, i1, i2, i3, iv]
    · simp at h
  · simp at h
noncomputable def cpyNS : List AV → PR
  | [.nilslice] => .val .nilslice
  | _ => .fail
theorem cpyN_ok : SumOk Tryz.prog 56 (pureS cpyNS) := by
  refine sum_fn (L := fun _ => none) (n := 1) (S := stOf []) drawS Tryz.T_ok (stOf_ok (by simp)) Tryz.func56 rfl (by kernel_rfl) (by kernel_rfl) ?_
    (by intro args v h; unfold cpyNS at h; split at h <;> simp at h)
  intro args v h
  unfold cpyNS at h
  split at h
  · cases h
    refine ⟨by simp, by simp, by simp, ?_⟩
    simp [Tryz.f56]
  · simp at h
noncomputable def shCpNS : List AV → PR
  | [.agg [.int .i64 kd, .int .i64 r, .int .i64 x, .int .i64 y, .int .i64 z, .nilslice]] => .val (.agg [.int .i64 kd, .int .i64 r, .int .i64 x, .int .i64 y, .int .i64 z, .nilslice])
  | _ => .fail
@[simp] theorem cpyNS_val : cpyNS [.nilslice] = .val .nilslice := rfl
@[simp] theorem shCpNS_val {kd r x y z : Int} : shCpNS [.agg [.int .i64 kd, .int .i64 r, .int .i64 x, .int .i64 y, .int .i64 z, .nilslice]] = .val (.agg [.int .i64 kd, .int .i64 r, .int .i64 x, .int .i64 y, .int .i64 z, .nilslice]) := rfl
theorem shCpN_ok : SumOk Tryz.prog 28 (pureS shCpNS) := by
  refine sum_fn (L := fun _ => none) (n := 1) (S := stOf [(56, pureS cpyNS)]) drawS Tryz.T_ok (stOf_ok (by simp [cpyN_ok])) Tryz.func28 rfl (by kernel_rfl) (by kernel_rfl) ?_
    (by intro args v h; unfold shCpNS at h; split at h <;> simp at h)
  intro args v h
  unfold shCpNS at h
  split at h
  · cases h
    refine ⟨by simp, by simp, by simp, ?_⟩
    simp [Tryz.f28]
  · simp at h
def fallBL (_ : Nat) : Option DM := none
noncomputable def fallBS : List AV → PR
  | [.agg [.int .i64 idn, .int .i64 kd, .int .i64 r, .int .i64 x, .int .i64 y, .int .i64 z, .nilslice, .int .i64 p1, .int .i64 p2, .int .i64 p3, .int .i64 q0, .int .i64 q1, .int .i64 q2, .int .i64 q3, .int .i64 M, .int .i64 vx, .int .i64 vy, .int .i64 vz, .int .i64 wx, .int .i64 wy, .int .i64 wz, .int .i64 rub], .agg [.int .i64 gx, .int .i64 gy, .int .i64 gz], .int .i64 t] => open Classical in if (idn = 1 ∧ kd = 1 ∧ r = 4294967296 ∧ x = 0 ∧ y = 0 ∧ z = 0 ∧ p1 = 0 ∧ p2 = 0 ∧ p3 = 0 ∧ q0 = 4294967296 ∧ q1 = 0 ∧ q2 = 0 ∧ q3 = 0 ∧ M = 4294967296 ∧ vx = 0 ∧ vy = 0 ∧ vz = 0 ∧ wx = 0 ∧ wy = 0 ∧ wz = 0 ∧ rub = 0) ∧ (gx = 0 ∧ gy = 0 ∧ gz = -42949672960) ∧ t = 2147483648 then .val (.tup [.agg [.int .i64 1, .int .i64 1, .int .i64 4294967296, .int .i64 0, .int .i64 0, .int .i64 0, .nilslice, .int .i64 0, .int .i64 0, .int .i64 0, .int .i64 4294967296, .int .i64 0, .int .i64 0, .int .i64 0, .int .i64 4294967296, .int .i64 0, .int .i64 0, .int .i64 (-21474836480), .int .i64 0, .int .i64 0, .int .i64 0, .int .i64 0], .nilslice, .int .i64 0]) else .fail
  | _ => .fail
set_option maxHeartbeats 40000000 in
set_option maxRecDepth 100000 in
theorem fallB_ok : SumOk Tryz.prog 11 (pureS fallBS) := by
  refine sum_fn (L := fallBL) (n := 1) (S := stOf [(27, pureS chBS), (14, mvFixS), (28, pureS shCpNS), (30, pureS mvclS), (29, pureS vMoveS)]) drawS Tryz.T_ok (stOf_ok (by simp [chB_ok, mvFix_ok, shCpN_ok, mvcl_ok, vMove_ok])) Tryz.func11 rfl (by kernel_rfl) (by kernel_rfl) ?_
    (by intro args v h; unfold fallBS at h; split at h <;> (try split at h) <;> simp at h)
  intro args v h
  unfold fallBS at h
  split at h
  · rename_i idn kd r x y z p1 p2 p3 q0 q1 q2 q3 M vx vy vz wx wy wz rub gx gy gz t
    split at h
    · rename_i hc
      obtain ⟨⟨rfl, rfl, rfl, rfl, rfl, rfl, rfl, rfl, rfl, rfl, rfl, rfl, rfl, rfl, rfl, rfl, rfl, rfl, rfl, rfl, rfl⟩, ⟨rfl, rfl, rfl⟩, rfl⟩ := hc
      cases h
      refine ⟨by simp, by simp, by simp, ?_⟩
      have i1 : InI 4294967296 := by decide
      have i2 : InI 0 := by decide
      have i3 : InI 1 := by decide
      have i4 : InI 2147483648 := by decide
      have i5 : InI (-42949672960) := by decide
      have i6 : InI (-21474836480) := by decide
      have m1 : mvI 0 0 2147483648 = 0 := by decide +kernel
      have m2 : mvI 0 (-42949672960) 2147483648 = -21474836480 := by decide +kernel
      have s1 : spI 0 = 0 := by decide +kernel
      have s2 : spI (-21474836480) = -21474836480 := by decide +kernel
      have c1 : clampI (-21474836480) = -21474836480 := by decide
      have c2 : clampI 0 = 0 := by decide
      simp (maxSteps := 10000000) [Tryz.f11, chBS, mvFixS, i2, i4, i5, i6, s1, s2, c1, c2]
    · simp at h
  · simp at h
noncomputable def goBS : List AV → PR
  | [.agg [.int .i64 idn, .int .i64 kd, .int .i64 r, .int .i64 x, .int .i64 y, .int .i64 z, .nilslice, .int .i64 p1, .int .i64 p2, .int .i64 p3, .int .i64 q0, .int .i64 q1, .int .i64 q2, .int .i64 q3, .int .i64 M, .int .i64 vx, .int .i64 vy, .int .i64 vz, .int .i64 wx, .int .i64 wy, .int .i64 wz, .int .i64 rub], .int .i64 t] => open Classical in if (idn = 1 ∧ kd = 1 ∧ r = 4294967296 ∧ x = 0 ∧ y = 0 ∧ z = 0 ∧ p1 = 0 ∧ p2 = 0 ∧ p3 = 0 ∧ q0 = 4294967296 ∧ q1 = 0 ∧ q2 = 0 ∧ q3 = 0 ∧ M = 4294967296 ∧ vx = 0 ∧ vy = 0 ∧ vz = (-21474836480) ∧ wx = 0 ∧ wy = 0 ∧ wz = 0 ∧ rub = 0) ∧ t = 2147483648 then .val (.tup [.agg [.int .i64 1, .int .i64 1, .int .i64 4294967296, .int .i64 0, .int .i64 0, .int .i64 0, .nilslice, .int .i64 0, .int .i64 0, .int .i64 (-10737418240), .int .i64 4294967296, .int .i64 0, .int .i64 0, .int .i64 0, .int .i64 4294967296, .int .i64 0, .int .i64 0, .int .i64 (-21474836480), .int .i64 0, .int .i64 0, .int .i64 0, .int .i64 0], .nilslice, .int .i64 0]) else .fail
  | _ => .fail
set_option maxHeartbeats 40000000 in
set_option maxRecDepth 100000 in
theorem goB_ok : SumOk Tryz.prog 13 (pureS goBS) := by
  refine sum_fn (L := fun _ => none) (n := 1) (S := stOf [(27, pureS chBS), (14, mvFixS), (28, pureS shCpNS), (31, pureS pMoveS)]) drawS Tryz.T_ok (stOf_ok (by simp [chB_ok, mvFix_ok, shCpN_ok, pMove_ok])) Tryz.func13 rfl (by kernel_rfl) (by kernel_rfl) ?_
    (by intro args v h; unfold goBS at h; split at h <;> (try split at h) <;> simp at h)
  intro args v h
  unfold goBS at h
  split at h
  · rename_i idn kd r x y z p1 p2 p3 q0 q1 q2 q3 M vx vy vz wx wy wz rub t
    split at h
    · rename_i hc
      obtain ⟨⟨rfl, rfl, rfl, rfl, rfl, rfl, rfl, rfl, rfl, rfl, rfl, rfl, rfl, rfl, rfl, rfl, rfl, rfl, rfl, rfl, rfl⟩, rfl⟩ := hc
      cases h
      refine ⟨by simp, by simp, by simp, ?_⟩
      have pl : Place 0 0 0 := by unfold Place; decide
      have tt : TurnP 4294967296 0 0 0 := by decide
      have s0 : sp0 4294967296 0 0 0 0 0 0 2147483648 = 4294967296 := by decide +kernel
      have s1 : sp1 4294967296 0 0 0 0 0 0 2147483648 = 0 := by decide +kernel
      have s2 : sp2 4294967296 0 0 0 0 0 0 2147483648 = 0 := by decide +kernel
      have s3 : sp3 4294967296 0 0 0 0 0 0 2147483648 = 0 := by decide +kernel
      have k1 : mvI 0 0 2147483648 = 0 := by decide +kernel
      have k2 : mvI 0 (-21474836480) 2147483648 = -10737418240 := by decide +kernel
      have k3 : plI 0 = 0 := by decide +kernel
      have k4 : plI (-10737418240) = -10737418240 := by decide +kernel
      have g1 : ratI 4294967296 (sq4 4294967296 0 0 0) = 4294967296 := by
        unfold ratI
        rw [if_neg (by decide), show quoI (4294967296 * 4294967296 * 18446744073709551616) (sq4 4294967296 0 0 0) = 18446744073709551616 by decide +kernel]
        exact rootI_of (by decide) (by decide) (by decide)
      have g2 : ratI 0 (sq4 4294967296 0 0 0) = 0 := by
        unfold ratI
        rw [if_neg (by decide), show quoI (0 * 0 * 18446744073709551616) (sq4 4294967296 0 0 0) = 0 by decide +kernel]
        exact rootI_of (by decide) (by decide) (by decide)
      have c1 : clampI 4294967296 = 4294967296 := by decide
      have c2 : clampI 0 = 0 := by decide
      have hm : pMoveS [.agg [.int .i64 0, .int .i64 0, .int .i64 0, .int .i64 4294967296, .int .i64 0, .int .i64 0, .int .i64 0], .agg [.int .i64 0, .int .i64 0, .int .i64 (-21474836480)], .agg [.int .i64 0, .int .i64 0, .int .i64 0], .int .i64 2147483648] = .val (.tup [.agg [.int .i64 0, .int .i64 0, .int .i64 (-10737418240), .int .i64 4294967296, .int .i64 0, .int .i64 0, .int .i64 0], .bool false, .int .i64 0]) := by
        rw [pMoveS_val (by decide), if_pos ⟨pl, tt⟩, s0, s1, s2, s3, if_pos tt, k1, k2, k3, k4, g1, g2, c1, c2]
        simp
      simp (maxSteps := 10000000) [Tryz.f13, chBS, mvFixS, hm, -pMoveS_val]
    · simp at h
  · simp at h
noncomputable def ballS : List AV → PR
  | [] => .val (.agg [.int .i64 1, .int .i64 1, .int .i64 4294967296, .int .i64 0, .int .i64 0, .int .i64 0, .nilslice, .int .i64 0, .int .i64 0, .int .i64 0, .int .i64 4294967296, .int .i64 0, .int .i64 0, .int .i64 0, .int .i64 4294967296, .int .i64 0, .int .i64 0, .int .i64 0, .int .i64 0, .int .i64 0, .int .i64 0, .int .i64 0])
  | _ => .fail
@[simp] theorem ballS_val : ballS [] = .val (.agg [.int .i64 1, .int .i64 1, .int .i64 4294967296, .int .i64 0, .int .i64 0, .int .i64 0, .nilslice, .int .i64 0, .int .i64 0, .int .i64 0, .int .i64 4294967296, .int .i64 0, .int .i64 0, .int .i64 0, .int .i64 4294967296, .int .i64 0, .int .i64 0, .int .i64 0, .int .i64 0, .int .i64 0, .int .i64 0, .int .i64 0]) := rfl
set_option maxRecDepth 100000 in
theorem ball_ok : SumOk Tryz.prog 12 (pureS ballS) := by
  refine sum_fn (L := fun _ => none) (n := 1) (S := stOf []) drawS Tryz.T_ok (stOf_ok (by simp)) Tryz.func12 rfl (by kernel_rfl) (by kernel_rfl) ?_
    (by intro args v h; unfold ballS at h; split at h <;> simp at h)
  intro args v h
  unfold ballS at h
  split at h
  · cases h
    refine ⟨by simp, by simp, by simp, ?_⟩
    simp [Tryz.f12]
  · simp at h
noncomputable def awake24S : List AV → PR
  | [] => .val (.bool true)
  | _ => .fail
@[simp] theorem awake24S_val : awake24S [] = .val (.bool true) := rfl
set_option maxHeartbeats 40000000 in
set_option maxRecDepth 100000 in
theorem awake24_ok : SumOk Tryz.prog 4 (pureS awake24S) := by
  refine sum_fn (L := fun _ => none) (n := 1) (S := stOf [(12, pureS ballS), (11, pureS fallBS), (13, pureS goBS), (7, boCkS)]) drawS Tryz.T_ok (stOf_ok (by simp [ball_ok, fallB_ok, goB_ok, boCk_ok])) Tryz.func4 rfl (by kernel_rfl) (by kernel_rfl) ?_
    (by intro args v h; unfold awake24S at h; split at h <;> simp at h)
  intro args v h
  unfold awake24S at h
  split at h
  · cases h
    refine ⟨by simp, by simp, by simp, ?_⟩
    have b3 : boI 0 0 0 0 0 0 0 (fun _ => 0) 0 0 0 0 0 0 0 0 0 0 0 0 0 0 0 = 2 := by unfold boI; rw [if_pos (by decide)]
    have i2 : InI 0 := by decide
    have h2 : ShP 0 0 0 0 0 0 (fun _ => 0) = True := eq_true ⟨i2, i2, i2, i2, i2, by decide, fun j hj => by omega⟩
    simp (maxSteps := 10000000) [Tryz.f4, fallBS, goBS, boCkS, h2, i2, b3]
  · simp at h
end Go.X
