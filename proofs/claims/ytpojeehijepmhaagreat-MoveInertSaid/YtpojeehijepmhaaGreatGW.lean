/- Poses that are moved. -/
import Derived.Test.YtpojeehijepmhaaGreatGV

section
namespace Go.X
open Go.Proofs
attribute [local irreducible] Good
attribute [simp] Tryz.T_99
def sp0 (a b c d x y z t : Int) : Int := clampI ((a * 36893488147419103232 + t * qW 0 x y z a b c d) / 36893488147419103232)
def sp1 (a b c d x y z t : Int) : Int := clampI ((b * 36893488147419103232 + t * qX 0 x y z a b c d) / 36893488147419103232)
def sp2 (a b c d x y z t : Int) : Int := clampI ((c * 36893488147419103232 + t * qY 0 x y z a b c d) / 36893488147419103232)
def sp3 (a b c d x y z t : Int) : Int := clampI ((d * 36893488147419103232 + t * qZ 0 x y z a b c d) / 36893488147419103232)
theorem sp0_is {a b c d x y z t : Int} : clampI ((a * 36893488147419103232 + t * qW 0 x y z a b c d) / 36893488147419103232) = sp0 a b c d x y z t := rfl
theorem sp1_is {a b c d x y z t : Int} : clampI ((b * 36893488147419103232 + t * qX 0 x y z a b c d) / 36893488147419103232) = sp1 a b c d x y z t := rfl
theorem sp2_is {a b c d x y z t : Int} : clampI ((c * 36893488147419103232 + t * qY 0 x y z a b c d) / 36893488147419103232) = sp2 a b c d x y z t := rfl
theorem sp3_is {a b c d x y z t : Int} : clampI ((d * 36893488147419103232 + t * qZ 0 x y z a b c d) / 36893488147419103232) = sp3 a b c d x y z t := rfl
theorem sp_in {a b c d x y z t : Int} : InI (sp0 a b c d x y z t) ∧ InI (sp1 a b c d x y z t) ∧ InI (sp2 a b c d x y z t) ∧ InI (sp3 a b c d x y z t) := ⟨InI_clamp _, InI_clamp _, InI_clamp _, InI_clamp _⟩
def mvI (p v t : Int) : Int := clampI ((p * 4294967296 + v * t) / 4294967296)
theorem mvI_is {p v t : Int} : clampI ((p * 4294967296 + v * t) / 4294967296) = mvI p v t := rfl
def plI (a : Int) : Int := betw a (-4398046511104) 4398046511104
theorem plI_is {a : Int} : betw a (-4398046511104) 4398046511104 = plI a := rfl
noncomputable def pMoveS : List AV → PR
  | [.agg [.int .i64 p1, .int .i64 p2, .int .i64 p3, .int .i64 q0, .int .i64 q1, .int .i64 q2, .int .i64 q3], .agg [.int .i64 x, .int .i64 y, .int .i64 z], .agg [.int .i64 u, .int .i64 v, .int .i64 w], .int .i64 t] => open Classical in if InI p1 ∧ InI p2 ∧ InI p3 ∧ InI q0 ∧ InI q1 ∧ InI q2 ∧ InI q3 ∧ InI x ∧ InI y ∧ InI z ∧ InI u ∧ InI v ∧ InI w ∧ InI t then .val (if Place p1 p2 p3 ∧ TurnP q0 q1 q2 q3 then (if TurnP (sp0 q0 q1 q2 q3 u v w t) (sp1 q0 q1 q2 q3 u v w t) (sp2 q0 q1 q2 q3 u v w t) (sp3 q0 q1 q2 q3 u v w t) then .tup [.agg [.int .i64 (plI (mvI p1 x t)), .int .i64 (plI (mvI p2 y t)), .int .i64 (plI (mvI p3 z t)), .int .i64 (clampI (ratI (sp0 q0 q1 q2 q3 u v w t) (sq4 (sp0 q0 q1 q2 q3 u v w t) (sp1 q0 q1 q2 q3 u v w t) (sp2 q0 q1 q2 q3 u v w t) (sp3 q0 q1 q2 q3 u v w t)))), .int .i64 (clampI (ratI (sp1 q0 q1 q2 q3 u v w t) (sq4 (sp0 q0 q1 q2 q3 u v w t) (sp1 q0 q1 q2 q3 u v w t) (sp2 q0 q1 q2 q3 u v w t) (sp3 q0 q1 q2 q3 u v w t)))), .int .i64 (clampI (ratI (sp2 q0 q1 q2 q3 u v w t) (sq4 (sp0 q0 q1 q2 q3 u v w t) (sp1 q0 q1 q2 q3 u v w t) (sp2 q0 q1 q2 q3 u v w t) (sp3 q0 q1 q2 q3 u v w t)))), .int .i64 (clampI (ratI (sp3 q0 q1 q2 q3 u v w t) (sq4 (sp0 q0 q1 q2 q3 u v w t) (sp1 q0 q1 q2 q3 u v w t) (sp2 q0 q1 q2 q3 u v w t) (sp3 q0 q1 q2 q3 u v w t))))], .bool (decide (¬ (plI (mvI p1 x t) = mvI p1 x t ∧ plI (mvI p2 y t) = mvI p2 y t ∧ plI (mvI p3 z t) = mvI p3 z t))), .int .i64 0] else .tup [.agg [.int .i64 (plI (mvI p1 x t)), .int .i64 (plI (mvI p2 y t)), .int .i64 (plI (mvI p3 z t)), .int .i64 q0, .int .i64 q1, .int .i64 q2, .int .i64 q3], .bool true, .int .i64 0]) else .tup [.agg [.int .i64 0, .int .i64 0, .int .i64 0, .int .i64 0, .int .i64 0, .int .i64 0, .int .i64 0], .bool false, .int .i64 (if Place p1 p2 p3 then (if TurnP q0 q1 q2 q3 then 0 else 9) else 7)]) else .fail
  | _ => .fail
@[simp] theorem pMoveS_val {p1 p2 p3 q0 q1 q2 q3 x y z u v w t : Int} (h : InI p1 ∧ InI p2 ∧ InI p3 ∧ InI q0 ∧ InI q1 ∧ InI q2 ∧ InI q3 ∧ InI x ∧ InI y ∧ InI z ∧ InI u ∧ InI v ∧ InI w ∧ InI t) : pMoveS [.agg [.int .i64 p1, .int .i64 p2, .int .i64 p3, .int .i64 q0, .int .i64 q1, .int .i64 q2, .int .i64 q3], .agg [.int .i64 x, .int .i64 y, .int .i64 z], .agg [.int .i64 u, .int .i64 v, .int .i64 w], .int .i64 t] = .val (if Place p1 p2 p3 ∧ TurnP q0 q1 q2 q3 then (if TurnP (sp0 q0 q1 q2 q3 u v w t) (sp1 q0 q1 q2 q3 u v w t) (sp2 q0 q1 q2 q3 u v w t) (sp3 q0 q1 q2 q3 u v w t) then .tup [.agg [.int .i64 (plI (mvI p1 x t)), .int .i64 (plI (mvI p2 y t)), .int .i64 (plI (mvI p3 z t)), .int .i64 (clampI (ratI (sp0 q0 q1 q2 q3 u v w t) (sq4 (sp0 q0 q1 q2 q3 u v w t) (sp1 q0 q1 q2 q3 u v w t) (sp2 q0 q1 q2 q3 u v w t) (sp3 q0 q1 q2 q3 u v w t)))), .int .i64 (clampI (ratI (sp1 q0 q1 q2 q3 u v w t) (sq4 (sp0 q0 q1 q2 q3 u v w t) (sp1 q0 q1 q2 q3 u v w t) (sp2 q0 q1 q2 q3 u v w t) (sp3 q0 q1 q2 q3 u v w t)))), .int .i64 (clampI (ratI (sp2 q0 q1 q2 q3 u v w t) (sq4 (sp0 q0 q1 q2 q3 u v w t) (sp1 q0 q1 q2 q3 u v w t) (sp2 q0 q1 q2 q3 u v w t) (sp3 q0 q1 q2 q3 u v w t)))), .int .i64 (clampI (ratI (sp3 q0 q1 q2 q3 u v w t) (sq4 (sp0 q0 q1 q2 q3 u v w t) (sp1 q0 q1 q2 q3 u v w t) (sp2 q0 q1 q2 q3 u v w t) (sp3 q0 q1 q2 q3 u v w t))))], .bool (decide (¬ (plI (mvI p1 x t) = mvI p1 x t ∧ plI (mvI p2 y t) = mvI p2 y t ∧ plI (mvI p3 z t) = mvI p3 z t))), .int .i64 0] else .tup [.agg [.int .i64 (plI (mvI p1 x t)), .int .i64 (plI (mvI p2 y t)), .int .i64 (plI (mvI p3 z t)), .int .i64 q0, .int .i64 q1, .int .i64 q2, .int .i64 q3], .bool true, .int .i64 0]) else .tup [.agg [.int .i64 0, .int .i64 0, .int .i64 0, .int .i64 0, .int .i64 0, .int .i64 0, .int .i64 0], .bool false, .int .i64 (if Place p1 p2 p3 then (if TurnP q0 q1 q2 q3 then 0 else 9) else 7)]) := if_pos h
set_option maxHeartbeats 40000000 in
theorem pMove_ok : SumOk Tryz.prog 31 (pureS pMoveS) := by
  refine sum_fn (L := fun _ => none) (n := 5) (S := stOf [(64, pureS fclampS), (48, pureS pCheckS), (66, pureS qSpinS), (65, pureS qUnitS), (29, pureS vMoveS)]) drawS Tryz.T_ok (stOf_ok (by simp [fclamp_ok, pCheck_ok, qSpin_ok, qUnit_ok, vMove_ok])) Tryz.func31 rfl (by kernel_rfl) (by kernel_rfl) ?_
    (by intro args v h; unfold pMoveS at h; split at h <;> (try split at h) <;> simp at h)
  intro args v h
  unfold pMoveS at h
  split at h
  · rename_i p1 p2 p3 q0 q1 q2 q3 x y z u v w t
    split at h
    · rename_i hc
      obtain ⟨hp1, hp2, hp3, hq0, hq1, hq2, hq3, hx, hy, hz, hu, hv, hw, ht⟩ := hc
      cases h
      refine ⟨by simp, by (split <;> (try split) <;> simp), by (split <;> (try split) <;> simp), ?_⟩
      by_cases pl : Place p1 p2 p3
      · by_cases tt : TurnP q0 q1 q2 q3
        · by_cases ts : TurnP (sp0 q0 q1 q2 q3 u v w t) (sp1 q0 q1 q2 q3 u v w t) (sp2 q0 q1 q2 q3 u v w t) (sp3 q0 q1 q2 q3 u v w t)
          · by_cases c1 : plI (mvI p1 x t) = mvI p1 x t <;> by_cases c2 : plI (mvI p2 y t) = mvI p2 y t <;> by_cases c3 : plI (mvI p3 z t) = mvI p3 z t <;>
              simp (maxSteps := 10000000) [hp1, hp2, hp3, hq0, hq1, hq2, hq3, hx, hy, hz, hu, hv, hw, ht, mvI_is, plI_is, sp0_is, sp1_is, sp2_is, sp3_is, sp_in, Tryz.f31, pl, tt, ts, c1, c2, c3]
          · by_cases c1 : plI (mvI p1 x t) = mvI p1 x t <;> by_cases c2 : plI (mvI p2 y t) = mvI p2 y t <;> by_cases c3 : plI (mvI p3 z t) = mvI p3 z t <;>
              simp (maxSteps := 10000000) [hp1, hp2, hp3, hq0, hq1, hq2, hq3, hx, hy, hz, hu, hv, hw, ht, mvI_is, plI_is, sp0_is, sp1_is, sp2_is, sp3_is, sp_in, Tryz.f31, pl, tt, ts, c1, c2, c3]
        · simp (maxSteps := 10000000) [hp1, hp2, hp3, hq0, hq1, hq2, hq3, Tryz.f31, pl, tt]
      · simp (maxSteps := 10000000) [hp1, hp2, hp3, hq0, hq1, hq2, hq3, Tryz.f31, pl]
    · simp at h
  · simp at h
end Go.X
end

section
namespace Go.X
open Go.Proofs
attribute [local irreducible] Good
def PlN (a : Int) : Prop := -4398046511104 ≤ a ∧ a ≤ 4398046511104
instance (a : Int) : Decidable (PlN a) := inferInstanceAs (Decidable (_ ∧ _))
theorem place_PlN {a b c : Int} : Place a b c ↔ PlN a ∧ PlN b ∧ PlN c := Iff.rfl
noncomputable def r11fitsS : List AV → PR
  | [.int .i64 a] => .val (.bool (decide (PlN a)))
  | _ => .fail
@[simp] theorem r11fitsS_val {a : Int} : r11fitsS [.int .i64 a] = .val (.bool (decide (PlN a))) := rfl
theorem r11fits_ok : SumOk Tryz.prog 113 (pureS r11fitsS) := by
  refine sum_fn (L := fun _ => none) (n := 1) (S := stOf []) drawS Tryz.T_ok (stOf_ok (by simp)) Tryz.func113 rfl (by kernel_rfl) (by kernel_rfl) ?_
    (by intro args v h; unfold r11fitsS at h; split at h <;> (try split at h) <;> simp at h)
  intro args v h
  unfold r11fitsS at h
  split at h
  · rename_i a
    cases h
    refine ⟨by simp, by simp, by simp, ?_⟩
    by_cases h1 : -4398046511104 ≤ a
    · by_cases h2 : a ≤ 4398046511104
      · simp [Tryz.f113, PlN, h1, h2]
      · simp [Tryz.f113, PlN, h1, h2]
    · simp [Tryz.f113, PlN, h1]
  · simp at h
noncomputable def r11CheckS : List AV → PR
  | [.agg [.int .i64 p1, .int .i64 p2, .int .i64 p3, .int .i64 q0, .int .i64 q1, .int .i64 q2, .int .i64 q3]] => open Classical in if InI p1 ∧ InI p2 ∧ InI p3 ∧ InI q0 ∧ InI q1 ∧ InI q2 ∧ InI q3 then .val (.int .i64 (if Place p1 p2 p3 then (if TurnP q0 q1 q2 q3 then 0 else 9) else 7)) else .fail
  | _ => .fail
@[simp] theorem r11CheckS_val {p1 p2 p3 q0 q1 q2 q3 : Int} (h : InI p1 ∧ InI p2 ∧ InI p3 ∧ InI q0 ∧ InI q1 ∧ InI q2 ∧ InI q3) : r11CheckS [.agg [.int .i64 p1, .int .i64 p2, .int .i64 p3, .int .i64 q0, .int .i64 q1, .int .i64 q2, .int .i64 q3]] = .val (.int .i64 (if Place p1 p2 p3 then (if TurnP q0 q1 q2 q3 then 0 else 9) else 7)) := if_pos h
set_option maxHeartbeats 4000000 in
theorem r11Check_ok : SumOk Tryz.prog 51 (pureS r11CheckS) := by
  refine sum_fn (L := fun _ => none) (n := 1) (S := stOf [(103, pureS r5checkS), (113, pureS r11fitsS)]) drawS Tryz.T_ok (stOf_ok (by simp [r5check_ok, r11fits_ok])) Tryz.func51 rfl (by kernel_rfl) (by kernel_rfl) ?_
    (by intro args v h; unfold r11CheckS at h; split at h <;> (try split at h) <;> simp at h)
  intro args v h
  unfold r11CheckS at h
  split at h
  · rename_i p1 p2 p3 q0 q1 q2 q3
    split at h
    · rename_i hc
      obtain ⟨hp1, hp2, hp3, hq0, hq1, hq2, hq3⟩ := hc
      cases h
      refine ⟨by simp, by simp, by simp, ?_⟩
      by_cases pl : Place p1 p2 p3
      · have pl2 := place_PlN.1 pl
        by_cases tt : TurnP q0 q1 q2 q3
        · simp (maxSteps := 10000000) [hq0, hq1, hq2, hq3, Tryz.f51, pl, pl2.1, pl2.2.1, pl2.2.2, tt]
        · simp (maxSteps := 10000000) [hq0, hq1, hq2, hq3, Tryz.f51, pl, pl2.1, pl2.2.1, pl2.2.2, tt]
      · by_cases k1 : PlN p1
        · by_cases k2 : PlN p2
          · have k3 : ¬ PlN p3 := fun e => pl (place_PlN.2 ⟨k1, k2, e⟩)
            simp (maxSteps := 10000000) [Tryz.f51, pl, k1, k2, k3]
          · simp (maxSteps := 10000000) [Tryz.f51, pl, k1, k2]
        · simp (maxSteps := 10000000) [Tryz.f51, pl, k1]
    · simp at h
  · simp at h
end Go.X
end

section
namespace Go.X
open Go.Proofs
attribute [local irreducible] Good
end Go.X
end
