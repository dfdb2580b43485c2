/- Poses: the reference, and the laws that ask the document's answer. -/
import Derived.Test.YtgfpllfimpgooaaGreatJT7
namespace Go.X
open Go.Proofs
attribute [local irreducible] Good

noncomputable def r11MoveS : List AV → PR
  | [.agg [.int .i64 p1, .int .i64 p2, .int .i64 p3, .int .i64 q0, .int .i64 q1, .int .i64 q2, .int .i64 q3], .agg [.int .i64 x, .int .i64 y, .int .i64 z], .agg [.int .i64 u, .int .i64 v, .int .i64 w], .int .i64 t] => open Classical in if InI p1 ∧ InI p2 ∧ InI p3 ∧ InI q0 ∧ InI q1 ∧ InI q2 ∧ InI q3 ∧ InI x ∧ InI y ∧ InI z ∧ InI u ∧ InI v ∧ InI w ∧ InI t then .val (if Place p1 p2 p3 ∧ TurnP q0 q1 q2 q3 then (if TurnP (sp0 q0 q1 q2 q3 u v w t) (sp1 q0 q1 q2 q3 u v w t) (sp2 q0 q1 q2 q3 u v w t) (sp3 q0 q1 q2 q3 u v w t) then .tup [.agg [.int .i64 (plI (mvI p1 x t)), .int .i64 (plI (mvI p2 y t)), .int .i64 (plI (mvI p3 z t)), .int .i64 (clampI (ratI (sp0 q0 q1 q2 q3 u v w t) (sq4 (sp0 q0 q1 q2 q3 u v w t) (sp1 q0 q1 q2 q3 u v w t) (sp2 q0 q1 q2 q3 u v w t) (sp3 q0 q1 q2 q3 u v w t)))), .int .i64 (clampI (ratI (sp1 q0 q1 q2 q3 u v w t) (sq4 (sp0 q0 q1 q2 q3 u v w t) (sp1 q0 q1 q2 q3 u v w t) (sp2 q0 q1 q2 q3 u v w t) (sp3 q0 q1 q2 q3 u v w t)))), .int .i64 (clampI (ratI (sp2 q0 q1 q2 q3 u v w t) (sq4 (sp0 q0 q1 q2 q3 u v w t) (sp1 q0 q1 q2 q3 u v w t) (sp2 q0 q1 q2 q3 u v w t) (sp3 q0 q1 q2 q3 u v w t)))), .int .i64 (clampI (ratI (sp3 q0 q1 q2 q3 u v w t) (sq4 (sp0 q0 q1 q2 q3 u v w t) (sp1 q0 q1 q2 q3 u v w t) (sp2 q0 q1 q2 q3 u v w t) (sp3 q0 q1 q2 q3 u v w t))))], .bool (decide (¬ (plI (mvI p1 x t) = mvI p1 x t ∧ plI (mvI p2 y t) = mvI p2 y t ∧ plI (mvI p3 z t) = mvI p3 z t))), .int .i64 0] else .tup [.agg [.int .i64 (plI (mvI p1 x t)), .int .i64 (plI (mvI p2 y t)), .int .i64 (plI (mvI p3 z t)), .int .i64 q0, .int .i64 q1, .int .i64 q2, .int .i64 q3], .bool true, .int .i64 0]) else .tup [.agg [.int .i64 0, .int .i64 0, .int .i64 0, .int .i64 0, .int .i64 0, .int .i64 0, .int .i64 0], .bool false, .int .i64 (if Place p1 p2 p3 then (if TurnP q0 q1 q2 q3 then 0 else 9) else 7)]) else .fail
  | _ => .fail
@[simp] theorem r11MoveS_val {p1 p2 p3 q0 q1 q2 q3 x y z u v w t : Int} (h : InI p1 ∧ InI p2 ∧ InI p3 ∧ InI q0 ∧ InI q1 ∧ InI q2 ∧ InI q3 ∧ InI x ∧ InI y ∧ InI z ∧ InI u ∧ InI v ∧ InI w ∧ InI t) : r11MoveS [.agg [.int .i64 p1, .int .i64 p2, .int .i64 p3, .int .i64 q0, .int .i64 q1, .int .i64 q2, .int .i64 q3], .agg [.int .i64 x, .int .i64 y, .int .i64 z], .agg [.int .i64 u, .int .i64 v, .int .i64 w], .int .i64 t] = .val (if Place p1 p2 p3 ∧ TurnP q0 q1 q2 q3 then (if TurnP (sp0 q0 q1 q2 q3 u v w t) (sp1 q0 q1 q2 q3 u v w t) (sp2 q0 q1 q2 q3 u v w t) (sp3 q0 q1 q2 q3 u v w t) then .tup [.agg [.int .i64 (plI (mvI p1 x t)), .int .i64 (plI (mvI p2 y t)), .int .i64 (plI (mvI p3 z t)), .int .i64 (clampI (ratI (sp0 q0 q1 q2 q3 u v w t) (sq4 (sp0 q0 q1 q2 q3 u v w t) (sp1 q0 q1 q2 q3 u v w t) (sp2 q0 q1 q2 q3 u v w t) (sp3 q0 q1 q2 q3 u v w t)))), .int .i64 (clampI (ratI (sp1 q0 q1 q2 q3 u v w t) (sq4 (sp0 q0 q1 q2 q3 u v w t) (sp1 q0 q1 q2 q3 u v w t) (sp2 q0 q1 q2 q3 u v w t) (sp3 q0 q1 q2 q3 u v w t)))), .int .i64 (clampI (ratI (sp2 q0 q1 q2 q3 u v w t) (sq4 (sp0 q0 q1 q2 q3 u v w t) (sp1 q0 q1 q2 q3 u v w t) (sp2 q0 q1 q2 q3 u v w t) (sp3 q0 q1 q2 q3 u v w t)))), .int .i64 (clampI (ratI (sp3 q0 q1 q2 q3 u v w t) (sq4 (sp0 q0 q1 q2 q3 u v w t) (sp1 q0 q1 q2 q3 u v w t) (sp2 q0 q1 q2 q3 u v w t) (sp3 q0 q1 q2 q3 u v w t))))], .bool (decide (¬ (plI (mvI p1 x t) = mvI p1 x t ∧ plI (mvI p2 y t) = mvI p2 y t ∧ plI (mvI p3 z t) = mvI p3 z t))), .int .i64 0] else .tup [.agg [.int .i64 (plI (mvI p1 x t)), .int .i64 (plI (mvI p2 y t)), .int .i64 (plI (mvI p3 z t)), .int .i64 q0, .int .i64 q1, .int .i64 q2, .int .i64 q3], .bool true, .int .i64 0]) else .tup [.agg [.int .i64 0, .int .i64 0, .int .i64 0, .int .i64 0, .int .i64 0, .int .i64 0, .int .i64 0], .bool false, .int .i64 (if Place p1 p2 p3 then (if TurnP q0 q1 q2 q3 then 0 else 9) else 7)]) := if_pos h
set_option maxHeartbeats 40000000 in
theorem r11Move_ok : SumOk Tryz.prog 42 (pureS r11MoveS) := by
  refine sum_fn (L := fun i => if i = 5 then some (.quiet 11) else if i = 9 then some (.calm 10 [7, 8, 9]) else none) (n := 1) (S := stOf [(100, pureS r2clampS), (99, pureS r3MoveS), (102, pureS r5SpinS), (101, pureS r5UnitS), (98, pureS r11CheckS)]) drawS Tryz.T_ok (stOf_ok (by simp [r2clamp_ok, r3Move_ok, r5Spin_ok, r5Unit_ok, r11Check_ok])) Tryz.func42 rfl (by kernel_rfl) (by kernel_rfl) ?_
    (by intro args v h; unfold r11MoveS at h; split at h <;> (try split at h) <;> simp at h)
  intro args v h
  unfold r11MoveS at h
  split at h
  · rename_i p1 p2 p3 q0 q1 q2 q3 x y z u v w t
    split at h
    · rename_i hc
      obtain ⟨hp1, hp2, hp3, hq0, hq1, hq2, hq3, hx, hy, hz, hu, hv, hw, ht⟩ := hc
      cases h
      refine ⟨by simp, by (split <;> (try split) <;> simp), by (split <;> (try split) <;> simp), ?_⟩
      by_cases pl : Place p1 p2 p3
      · by_cases tt : TurnP q0 q1 q2 q3
        · by_cases ts : TurnP (sp0 q0 q1 q2 q3 u v w t) (sp1 q0 q1 q2 q3 u v w t) (sp2 q0 q1 q2 q3 u v w t) (sp3 q0 q1 q2 q3 u v w t)
          · by_cases c1 : plI (mvI p1 x t) = mvI p1 x t <;> by_cases c2 : plI (mvI p2 y t) = mvI p2 y t <;> by_cases c3 : plI (mvI p3 z t) = mvI p3 z t <;>
              simp (maxSteps := 10000000) [hp1, hp2, hp3, hq0, hq1, hq2, hq3, hx, hy, hz, hu, hv, hw, ht, beq_dec, mvI_is, plI_is, sp0_is, sp1_is, sp2_is, sp3_is, sp_in, Tryz.f42, pl, tt, ts, c1, c2, c3]
          · by_cases c1 : plI (mvI p1 x t) = mvI p1 x t <;> by_cases c2 : plI (mvI p2 y t) = mvI p2 y t <;> by_cases c3 : plI (mvI p3 z t) = mvI p3 z t <;>
              simp (maxSteps := 10000000) [hp1, hp2, hp3, hq0, hq1, hq2, hq3, hx, hy, hz, hu, hv, hw, ht, beq_dec, mvI_is, plI_is, sp0_is, sp1_is, sp2_is, sp3_is, sp_in, Tryz.f42, pl, tt, ts, c1, c2, c3]
        · simp (maxSteps := 10000000) [hp1, hp2, hp3, hq0, hq1, hq2, hq3, Tryz.f42, pl, tt]
      · simp (maxSteps := 10000000) [hp1, hp2, hp3, hq0, hq1, hq2, hq3, Tryz.f42, pl]
    · simp at h
  · simp at h

noncomputable def lawMove11S : List AV → PR
  | [.agg [.int .i64 p1, .int .i64 p2, .int .i64 p3, .int .i64 q0, .int .i64 q1, .int .i64 q2, .int .i64 q3], .agg [.int .i64 x, .int .i64 y, .int .i64 z], .agg [.int .i64 u, .int .i64 v, .int .i64 w], .int .i64 t] => open Classical in if InI p1 ∧ InI p2 ∧ InI p3 ∧ InI q0 ∧ InI q1 ∧ InI q2 ∧ InI q3 ∧ InI x ∧ InI y ∧ InI z ∧ InI u ∧ InI v ∧ InI w ∧ InI t then .val (.bool true) else .fail
  | _ => .fail
@[simp] theorem lawMove11S_val {p1 p2 p3 q0 q1 q2 q3 x y z u v w t : Int} (h : InI p1 ∧ InI p2 ∧ InI p3 ∧ InI q0 ∧ InI q1 ∧ InI q2 ∧ InI q3 ∧ InI x ∧ InI y ∧ InI z ∧ InI u ∧ InI v ∧ InI w ∧ InI t) : lawMove11S [.agg [.int .i64 p1, .int .i64 p2, .int .i64 p3, .int .i64 q0, .int .i64 q1, .int .i64 q2, .int .i64 q3], .agg [.int .i64 x, .int .i64 y, .int .i64 z], .agg [.int .i64 u, .int .i64 v, .int .i64 w], .int .i64 t] = .val (.bool true) := if_pos h
set_option maxHeartbeats 40000000 in
set_option maxRecDepth 100000 in
theorem lawMove11_ok : SumOk Tryz.prog 7 (pureS lawMove11S) := by
  refine sum_fn (L := fun _ => none) (n := 1) (S := stOf [(15, pureS awake11S), (42, pureS r11MoveS), (41, pureS pMoveS)]) drawS Tryz.T_ok (stOf_ok (by simp [awake11_ok, r11Move_ok, pMove_ok])) Tryz.func7 rfl (by kernel_rfl) (by kernel_rfl) ?_
    (by intro args v h; unfold lawMove11S at h; split at h <;> (try split at h) <;> simp at h)
  intro args v h
  unfold lawMove11S at h
  split at h
  · rename_i p1 p2 p3 q0 q1 q2 q3 x y z u v w t
    split at h
    · rename_i hc
      obtain ⟨hp1, hp2, hp3, hq0, hq1, hq2, hq3, hx, hy, hz, hu, hv, hw, ht⟩ := hc
      cases h
      refine ⟨by simp, by simp, by simp, ?_⟩
      by_cases pl : Place p1 p2 p3
      · by_cases tt : TurnP q0 q1 q2 q3
        · by_cases ts : TurnP (sp0 q0 q1 q2 q3 u v w t) (sp1 q0 q1 q2 q3 u v w t) (sp2 q0 q1 q2 q3 u v w t) (sp3 q0 q1 q2 q3 u v w t)
          · by_cases c1 : plI (mvI p1 x t) = mvI p1 x t ∧ plI (mvI p2 y t) = mvI p2 y t ∧ plI (mvI p3 z t) = mvI p3 z t
            · simp (maxSteps := 10000000) [hp1, hp2, hp3, hq0, hq1, hq2, hq3, hx, hy, hz, hu, hv, hw, ht, Tryz.f7, pl, tt, ts, c1]
            · simp (maxSteps := 10000000) [hp1, hp2, hp3, hq0, hq1, hq2, hq3, hx, hy, hz, hu, hv, hw, ht, Tryz.f7, pl, tt, ts, c1]
          · simp (maxSteps := 10000000) [hp1, hp2, hp3, hq0, hq1, hq2, hq3, hx, hy, hz, hu, hv, hw, ht, Tryz.f7, pl, tt, ts]
        · simp (maxSteps := 10000000) [hp1, hp2, hp3, hq0, hq1, hq2, hq3, hx, hy, hz, hu, hv, hw, ht, Tryz.f7, pl, tt]
      · simp (maxSteps := 10000000) [hp1, hp2, hp3, hq0, hq1, hq2, hq3, hx, hy, hz, hu, hv, hw, ht, Tryz.f7, pl]
    · simp at h
  · simp at h

end Go.X
