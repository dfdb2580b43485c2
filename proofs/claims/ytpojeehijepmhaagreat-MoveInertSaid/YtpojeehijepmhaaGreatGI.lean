/- Things and bodies: may they be? -/
import Derived.Test.YtpojeehijepmhaaGreatGX
import Derived.Test.YtpojeehijepmhaaGreatGW

section
namespace Go.X
open Go.Proofs
attribute [local irreducible] Good
attribute [simp] Tryz.T_33
attribute [simp] Tryz.T_35
noncomputable def thI (kd r x y z : Int) (n : Nat) (f : Nat → Int) (p1 p2 p3 q0 q1 q2 q3 : Int) : Int := if Place p1 p2 p3 then (if TurnP q0 q1 q2 q3 then ckI kd r x y z n f else 9) else 7
noncomputable def thCkS : Sum := fun args env _ => match args with
  | [.agg [.int .i64 kd, .int .i64 r, .int .i64 x, .int .i64 y, .int .i64 z, l, .int .i64 p1, .int .i64 p2, .int .i64 p3, .int .i64 q0, .int .i64 q1, .int .i64 q2, .int .i64 q3]] => match listE env l with
    | some (n, f) => open Classical in if (InI p1 ∧ InI p2 ∧ InI p3 ∧ InI q0 ∧ InI q1 ∧ InI q2 ∧ InI q3) ∧ ShP kd r x y z n f then .val (.int .i64 (thI kd r x y z n f p1 p2 p3 q0 q1 q2 q3)) [] [] else .fail
    | none => .fail
  | _ => .fail
set_option maxHeartbeats 400000000 in
set_option maxRecDepth 100000 in
theorem thCk_ok : SumOk Tryz.prog 21 thCkS := by
  refine sum_read (L := fun _ => none) (n := 1) (S := stOf [(48, pureS pCheckS), (49, checkBS)]) drawS Tryz.T_ok (stOf_ok (by simp [pCheck_ok, checkB_ok])) Tryz.func21 rfl (by kernel_rfl) (by kernel_rfl) ?_
  intro args env nxt h
  unfold thCkS at h ⊢
  split at h
  · rename_i kd r x y z l p1 p2 p3 q0 q1 q2 q3
    split at h
    · rename_i n f hl
      split at h
      · rename_i hc
        simp only [if_pos hc]
        obtain ⟨⟨i1, i2, i3, j0, j1, j2, j3⟩, -⟩ := id hc
        rcases laid_shape (fun l => [.agg [.int .i64 kd, .int .i64 r, .int .i64 x, .int .i64 y, .int .i64 z, l, .int .i64 p1, .int .i64 p2, .int .i64 p3, .int .i64 q0, .int .i64 q1, .int .i64 q2, .int .i64 q3]]) hl (fun _ _ => rfl) (fun l => by simp) with ⟨rfl, rfl, rfl, hlaid⟩ | ⟨p, o1, c, items, ty, rfl, hlaid, hnc, hr', ⟨o, F, hrow, hf⟩, hE, hE2, hload⟩
        · refine ⟨_, _, _, (.int .i64 (thI kd r x y z 0 (fun _ => 0) p1 p2 p3 q0 q1 q2 q3)), hlaid, rfl, rfl, rfl, ?_⟩
          have hct := eq_true hc.2
          by_cases pl : Place p1 p2 p3
          · by_cases tt : TurnP q0 q1 q2 q3
            · have e : thI kd r x y z 0 (fun _ => 0) p1 p2 p3 q0 q1 q2 q3 = ckI kd r x y z 0 (fun _ => 0) := by unfold thI; rw [if_pos pl, if_pos tt]
              rw [e]
              simp (maxSteps := 10000000) [Tryz.f21, checkBS, hct, i1, i2, i3, j0, j1, j2, j3, pl, tt]
            · have e : thI kd r x y z 0 (fun _ => 0) p1 p2 p3 q0 q1 q2 q3 = 9 := by unfold thI; rw [if_pos pl, if_neg tt]
              rw [e]
              simp (maxSteps := 10000000) [Tryz.f21, i1, i2, i3, j0, j1, j2, j3, pl, tt]
          · have e : thI kd r x y z 0 (fun _ => 0) p1 p2 p3 q0 q1 q2 q3 = 7 := by unfold thI; rw [if_neg pl]
            rw [e]
            simp (maxSteps := 10000000) [Tryz.f21, i1, i2, i3, j0, j1, j2, j3, pl]
        · refine ⟨_, _, _, (.int .i64 (thI kd r x y z n f p1 p2 p3 q0 q1 q2 q3)), hlaid, rfl, rfl, rfl, ?_⟩
          have hct := eq_true hc.2
          by_cases pl : Place p1 p2 p3
          · by_cases tt : TurnP q0 q1 q2 q3
            · have e : thI kd r x y z n f p1 p2 p3 q0 q1 q2 q3 = ckI kd r x y z n f := by unfold thI; rw [if_pos pl, if_pos tt]
              rw [e]
              simp (maxSteps := 10000000) [Tryz.f21, checkBS, hct, i1, i2, i3, j0, j1, j2, j3, pl, tt, hE]
            · have e : thI kd r x y z n f p1 p2 p3 q0 q1 q2 q3 = 9 := by unfold thI; rw [if_pos pl, if_neg tt]
              rw [e]
              simp (maxSteps := 10000000) [Tryz.f21, i1, i2, i3, j0, j1, j2, j3, pl, tt]
          · have e : thI kd r x y z n f p1 p2 p3 q0 q1 q2 q3 = 7 := by unfold thI; rw [if_neg pl]
            rw [e]
            simp (maxSteps := 10000000) [Tryz.f21, i1, i2, i3, j0, j1, j2, j3, pl]
      · simp [*] at h
    · simp [*] at h
  · simp at h
set_option maxHeartbeats 400000000 in
set_option maxRecDepth 100000 in
theorem r18Ck_ok : SumOk Tryz.prog 23 thCkS := by
  refine sum_read (L := fun _ => none) (n := 1) (S := stOf [(51, pureS r11CheckS), (52, checkBS)]) drawS Tryz.T_ok (stOf_ok (by simp [r11Check_ok, r9check_ok])) Tryz.func23 rfl (by kernel_rfl) (by kernel_rfl) ?_
  intro args env nxt h
  unfold thCkS at h ⊢
  split at h
  · rename_i kd r x y z l p1 p2 p3 q0 q1 q2 q3
    split at h
    · rename_i n f hl
      split at h
      · rename_i hc
        simp only [if_pos hc]
        obtain ⟨⟨i1, i2, i3, j0, j1, j2, j3⟩, -⟩ := id hc
        rcases laid_shape (fun l => [.agg [.int .i64 kd, .int .i64 r, .int .i64 x, .int .i64 y, .int .i64 z, l, .int .i64 p1, .int .i64 p2, .int .i64 p3, .int .i64 q0, .int .i64 q1, .int .i64 q2, .int .i64 q3]]) hl (fun _ _ => rfl) (fun l => by simp) with ⟨rfl, rfl, rfl, hlaid⟩ | ⟨p, o1, c, items, ty, rfl, hlaid, hnc, hr', ⟨o, F, hrow, hf⟩, hE, hE2, hload⟩
        · refine ⟨_, _, _, (.int .i64 (thI kd r x y z 0 (fun _ => 0) p1 p2 p3 q0 q1 q2 q3)), hlaid, rfl, rfl, rfl, ?_⟩
          have hct := eq_true hc.2
          by_cases pl : Place p1 p2 p3
          · by_cases tt : TurnP q0 q1 q2 q3
            · have e : thI kd r x y z 0 (fun _ => 0) p1 p2 p3 q0 q1 q2 q3 = ckI kd r x y z 0 (fun _ => 0) := by unfold thI; rw [if_pos pl, if_pos tt]
              rw [e]
              simp (maxSteps := 10000000) [Tryz.f23, checkBS, hct, i1, i2, i3, j0, j1, j2, j3, pl, tt]
            · have e : thI kd r x y z 0 (fun _ => 0) p1 p2 p3 q0 q1 q2 q3 = 9 := by unfold thI; rw [if_pos pl, if_neg tt]
              rw [e]
              simp (maxSteps := 10000000) [Tryz.f23, i1, i2, i3, j0, j1, j2, j3, pl, tt]
          · have e : thI kd r x y z 0 (fun _ => 0) p1 p2 p3 q0 q1 q2 q3 = 7 := by unfold thI; rw [if_neg pl]
            rw [e]
            simp (maxSteps := 10000000) [Tryz.f23, i1, i2, i3, j0, j1, j2, j3, pl]
        · refine ⟨_, _, _, (.int .i64 (thI kd r x y z n f p1 p2 p3 q0 q1 q2 q3)), hlaid, rfl, rfl, rfl, ?_⟩
          have hct := eq_true hc.2
          by_cases pl : Place p1 p2 p3
          · by_cases tt : TurnP q0 q1 q2 q3
            · have e : thI kd r x y z n f p1 p2 p3 q0 q1 q2 q3 = ckI kd r x y z n f := by unfold thI; rw [if_pos pl, if_pos tt]
              rw [e]
              simp (maxSteps := 10000000) [Tryz.f23, checkBS, hct, i1, i2, i3, j0, j1, j2, j3, pl, tt, hE]
            · have e : thI kd r x y z n f p1 p2 p3 q0 q1 q2 q3 = 9 := by unfold thI; rw [if_pos pl, if_neg tt]
              rw [e]
              simp (maxSteps := 10000000) [Tryz.f23, i1, i2, i3, j0, j1, j2, j3, pl, tt]
          · have e : thI kd r x y z n f p1 p2 p3 q0 q1 q2 q3 = 7 := by unfold thI; rw [if_neg pl]
            rw [e]
            simp (maxSteps := 10000000) [Tryz.f23, i1, i2, i3, j0, j1, j2, j3, pl]
      · simp [*] at h
    · simp [*] at h
  · simp at h
end Go.X
end

section
namespace Go.X
open Go.Proofs
attribute [local irreducible] Good
def spI (a : Int) : Int := betw a (-1099511627776) 1099511627776
theorem ieq {a b : Int} : (a == b) = decide (a = b) := by by_cases h : a = b <;> simp [h]
theorem spI_is {a : Int} : betw a (-1099511627776) 1099511627776 = spI a := rfl
noncomputable def mvc1S : List AV → PR
  | [.int .i64 a] => open Classical in if InI a then .val (.int .i64 (spI a)) else .fail
  | _ => .fail
@[simp] theorem mvc1S_val {a : Int} (h : InI a) : mvc1S [.int .i64 a] = .val (.int .i64 (spI a)) := if_pos h
theorem mvc1_ok : SumOk Tryz.prog 63 (pureS mvc1S) := by
  refine sum_fn (L := fun _ => none) (n := 1) (S := stOf [(64, pureS fclampS)]) drawS Tryz.T_ok (stOf_ok (by simp [fclamp_ok])) Tryz.func63 rfl (by kernel_rfl) (by kernel_rfl) ?_
    (by intro args v h; unfold mvc1S at h; split at h <;> (try split at h) <;> simp at h)
  intro args v h
  unfold mvc1S at h
  split at h
  · rename_i a
    split at h
    · rename_i hc
      have ha := hc
      cases h
      refine ⟨by simp, by simp, by simp, ?_⟩
      simp [Tryz.f63, spI_is]
    · simp at h
  · simp at h
noncomputable def mvclS : List AV → PR
  | [.agg [.int .i64 x, .int .i64 y, .int .i64 z]] => open Classical in if InI x ∧ InI y ∧ InI z then .val (.agg [.int .i64 (spI x), .int .i64 (spI y), .int .i64 (spI z)]) else .fail
  | _ => .fail
@[simp] theorem mvclS_val {x y z : Int} (h : InI x ∧ InI y ∧ InI z) : mvclS [.agg [.int .i64 x, .int .i64 y, .int .i64 z]] = .val (.agg [.int .i64 (spI x), .int .i64 (spI y), .int .i64 (spI z)]) := if_pos h
theorem mvcl_ok : SumOk Tryz.prog 30 (pureS mvclS) := by
  refine sum_fn (L := fun i => if i = 2 then some (.quiet 13) else none) (n := 1) (S := stOf [(63, pureS mvc1S)]) drawS Tryz.T_ok (stOf_ok (by simp [mvc1_ok])) Tryz.func30 rfl (by kernel_rfl) (by kernel_rfl) ?_
    (by intro args v h; unfold mvclS at h; split at h <;> (try split at h) <;> simp at h)
  intro args v h
  unfold mvclS at h
  split at h
  · rename_i x y z
    split at h
    · rename_i hc
      obtain ⟨hx, hy, hz⟩ := hc
      cases h
      refine ⟨by simp, by simp, by simp, ?_⟩
      simp [Tryz.f30, hx, hy, hz]
    · simp at h
  · simp at h
noncomputable def mvlimS : List AV → PR
  | [.agg [.int .i64 x, .int .i64 y, .int .i64 z]] => open Classical in if InI x ∧ InI y ∧ InI z then .val (.bool (decide (spI x = x ∧ spI y = y ∧ spI z = z))) else .fail
  | _ => .fail
@[simp] theorem mvlimS_val {x y z : Int} (h : InI x ∧ InI y ∧ InI z) : mvlimS [.agg [.int .i64 x, .int .i64 y, .int .i64 z]] = .val (.bool (decide (spI x = x ∧ spI y = y ∧ spI z = z))) := if_pos h
theorem mvlim_ok : SumOk Tryz.prog 50 (pureS mvlimS) := by
  refine sum_fn (L := fun _ => none) (n := 1) (S := stOf [(30, pureS mvclS)]) drawS Tryz.T_ok (stOf_ok (by simp [mvcl_ok])) Tryz.func50 rfl (by kernel_rfl) (by kernel_rfl) ?_
    (by intro args v h; unfold mvlimS at h; split at h <;> (try split at h) <;> simp at h)
  intro args v h
  unfold mvlimS at h
  split at h
  · rename_i x y z
    split at h
    · rename_i hc
      obtain ⟨hx, hy, hz⟩ := hc
      cases h
      refine ⟨by simp, by simp, by simp, ?_⟩
      simp [Tryz.f50, hx, hy, hz, ieq]
    · simp at h
  · simp at h
noncomputable def r24clS : List AV → PR
  | [.agg [.int .i64 x, .int .i64 y, .int .i64 z]] => open Classical in if InI x ∧ InI y ∧ InI z then .val (.agg [.int .i64 (spI x), .int .i64 (spI y), .int .i64 (spI z)]) else .fail
  | _ => .fail
@[simp] theorem r24clS_val {x y z : Int} (h : InI x ∧ InI y ∧ InI z) : r24clS [.agg [.int .i64 x, .int .i64 y, .int .i64 z]] = .val (.agg [.int .i64 (spI x), .int .i64 (spI y), .int .i64 (spI z)]) := if_pos h
theorem r24cl_ok : SumOk Tryz.prog 24 (pureS r24clS) := by
  refine sum_fn (L := fun i => if i = 2 then some (.quiet 19) else none) (n := 1) (S := stOf [(53, pureS r2clampS)]) drawS Tryz.T_ok (stOf_ok (by simp [r2clamp_ok])) Tryz.func24 rfl (by kernel_rfl) (by kernel_rfl) ?_
    (by intro args v h; unfold r24clS at h; split at h <;> (try split at h) <;> simp at h)
  intro args v h
  unfold r24clS at h
  split at h
  · rename_i x y z
    split at h
    · rename_i hc
      obtain ⟨hx, hy, hz⟩ := hc
      cases h
      refine ⟨by simp, by simp, by simp, ?_⟩
      simp [Tryz.f24, spI_is]
    · simp at h
  · simp at h
end Go.X
end

section
namespace Go.X
open Go.Proofs
attribute [local irreducible] Good
attribute [simp] Tryz.T_53
def FineP (M vx vy vz wx wy wz : Int) : Prop := if M = 0 then (vx = 0 ∧ vy = 0 ∧ vz = 0) ∧ (wx = 0 ∧ wy = 0 ∧ wz = 0) else (16777216 ≤ M ∧ M ≤ 4503599627370496) ∧ (spI vx = vx ∧ spI vy = vy ∧ spI vz = vz) ∧ (spI wx = wx ∧ spI wy = wy ∧ spI wz = wz)
instance (M vx vy vz wx wy wz : Int) : Decidable (FineP M vx vy vz wx wy wz) := by unfold FineP; infer_instance
noncomputable def mvFixS : Sum := fun args env _ => match args with
  | [.agg [.int .i64 _ident, .int .i64 _kd, .int .i64 _r, .int .i64 _x, .int .i64 _y, .int .i64 _z, l, .int .i64 _p1, .int .i64 _p2, .int .i64 _p3, .int .i64 _q0, .int .i64 _q1, .int .i64 _q2, .int .i64 _q3, .int .i64 M, .int .i64 _vx, .int .i64 _vy, .int .i64 _vz, .int .i64 _wx, .int .i64 _wy, .int .i64 _wz, .int .i64 _rub]] => match listE env l with
    | some (n, _f) => open Classical in if n = n then .val (.bool (decide (M = 0))) [] [] else .fail
    | none => .fail
  | _ => .fail
set_option maxHeartbeats 400000000 in
set_option maxRecDepth 100000 in
theorem mvFix_ok : SumOk Tryz.prog 14 mvFixS := by
  refine sum_read (L := fun _ => none) (n := 1) (S := stOf []) drawS Tryz.T_ok (stOf_ok (by simp)) Tryz.func14 rfl (by kernel_rfl) (by kernel_rfl) ?_
  intro args env nxt h
  unfold mvFixS at h ⊢
  split at h
  · rename_i idn kd r x y z l p1 p2 p3 q0 q1 q2 q3 M vx vy vz wx wy wz rub
    split at h
    · rename_i n f hl
      split at h
      · rename_i hc
        simp only []
        obtain - := id hc
        rcases laid_shape (fun l => [.agg [.int .i64 idn, .int .i64 kd, .int .i64 r, .int .i64 x, .int .i64 y, .int .i64 z, l, .int .i64 p1, .int .i64 p2, .int .i64 p3, .int .i64 q0, .int .i64 q1, .int .i64 q2, .int .i64 q3, .int .i64 M, .int .i64 vx, .int .i64 vy, .int .i64 vz, .int .i64 wx, .int .i64 wy, .int .i64 wz, .int .i64 rub]]) hl (fun _ _ => rfl) (fun l => by simp) with ⟨rfl, rfl, rfl, hlaid⟩ | ⟨p, o1, c, items, ty, rfl, hlaid, hnc, hr', ⟨o, F, hrow, hf⟩, hE, hE2, hload⟩
        · refine ⟨_, _, _, (.bool (decide (M = 0))), hlaid, rfl, rfl, rfl, ?_⟩
          by_cases m0 : M = 0
          · subst m0
            simp (maxSteps := 10000000) [Tryz.f14]
          · simp (maxSteps := 10000000) [Tryz.f14, m0]
        · refine ⟨_, _, _, (.bool (decide (M = 0))), hlaid, rfl, rfl, rfl, ?_⟩
          by_cases m0 : M = 0
          · subst m0
            simp (maxSteps := 10000000) [Tryz.f14]
          · simp (maxSteps := 10000000) [Tryz.f14, m0]
      · simp [*] at h
    · simp [*] at h
  · simp at h
noncomputable def mvFineS : Sum := fun args env _ => match args with
  | [.agg [.int .i64 _ident, .int .i64 _kd, .int .i64 _r, .int .i64 _x, .int .i64 _y, .int .i64 _z, l, .int .i64 _p1, .int .i64 _p2, .int .i64 _p3, .int .i64 _q0, .int .i64 _q1, .int .i64 _q2, .int .i64 _q3, .int .i64 M, .int .i64 vx, .int .i64 vy, .int .i64 vz, .int .i64 wx, .int .i64 wy, .int .i64 wz, .int .i64 _rub]] => match listE env l with
    | some (_n, _f) => open Classical in if InI M ∧ (InI vx ∧ InI vy ∧ InI vz) ∧ (InI wx ∧ InI wy ∧ InI wz) then .val (.bool (decide (FineP M vx vy vz wx wy wz))) [] [] else .fail
    | none => .fail
  | _ => .fail
set_option maxHeartbeats 400000000 in
set_option maxRecDepth 100000 in
theorem mvFine_ok : SumOk Tryz.prog 22 mvFineS := by
  refine sum_read (L := fun _ => none) (n := 1) (S := stOf [(14, mvFixS), (50, pureS mvlimS)]) drawS Tryz.T_ok (stOf_ok (by simp [mvFix_ok, mvlim_ok])) Tryz.func22 rfl (by kernel_rfl) (by kernel_rfl) ?_
  intro args env nxt h
  unfold mvFineS at h ⊢
  split at h
  · rename_i idn kd r x y z l p1 p2 p3 q0 q1 q2 q3 M vx vy vz wx wy wz rub
    split at h
    · rename_i n f hl
      split at h
      · rename_i hc
        simp only [if_pos hc]
        obtain ⟨hM, ⟨v0, v1, v2⟩, w0, w1, w2⟩ := id hc
        rcases laid_shape (fun l => [.agg [.int .i64 idn, .int .i64 kd, .int .i64 r, .int .i64 x, .int .i64 y, .int .i64 z, l, .int .i64 p1, .int .i64 p2, .int .i64 p3, .int .i64 q0, .int .i64 q1, .int .i64 q2, .int .i64 q3, .int .i64 M, .int .i64 vx, .int .i64 vy, .int .i64 vz, .int .i64 wx, .int .i64 wy, .int .i64 wz, .int .i64 rub]]) hl (fun _ _ => rfl) (fun l => by simp) with ⟨rfl, rfl, rfl, hlaid⟩ | ⟨p, o1, c, items, ty, rfl, hlaid, hnc, hr', ⟨o, F, hrow, hf⟩, hE, hE2, hload⟩
        · refine ⟨_, _, _, (.bool (decide (FineP M vx vy vz wx wy wz))), hlaid, rfl, rfl, rfl, ?_⟩
          by_cases m0 : M = 0
          · subst m0
            by_cases e1 : vx = 0 ∧ vy = 0 ∧ vz = 0
            · by_cases e2 : wx = 0 ∧ wy = 0 ∧ wz = 0
              · have e : FineP 0 vx vy vz wx wy wz := by unfold FineP; rw [if_pos rfl]; exact ⟨e1, e2⟩
                rw [decide_eq_true e]
                simp (maxSteps := 10000000) [Tryz.f22, mvFixS, e1, e2]
              · have e : ¬ FineP 0 vx vy vz wx wy wz := by unfold FineP; rw [if_pos rfl]; exact fun k => e2 k.2
                rw [decide_eq_false e]
                have e2' : (wx == 0 && (wy == 0 && wz == 0)) = false := by simpa using fun a b c => e2 ⟨a, b, c⟩
                simp (maxSteps := 10000000) [Tryz.f22, mvFixS, e1, e2']
            · have e : ¬ FineP 0 vx vy vz wx wy wz := by unfold FineP; rw [if_pos rfl]; exact fun k => e1 k.1
              rw [decide_eq_false e]
              have e1' : (vx == 0 && (vy == 0 && vz == 0)) = false := by simpa using fun a b c => e1 ⟨a, b, c⟩
              simp (maxSteps := 10000000) [Tryz.f22, mvFixS, e1']
          · by_cases g : (16777216 ≤ M ∧ M ≤ 4503599627370496) ∧ (spI vx = vx ∧ spI vy = vy ∧ spI vz = vz) ∧ (spI wx = wx ∧ spI wy = wy ∧ spI wz = wz)
            · have e : FineP M vx vy vz wx wy wz := by unfold FineP; rw [if_neg m0]; exact g
              rw [decide_eq_true e]
              obtain ⟨⟨g1, g2⟩, g3, g4⟩ := g
              simp (maxSteps := 10000000) [Tryz.f22, mvFixS, v0, v1, v2, w0, w1, w2, m0, g1, g2, g3, g4]
            · have e : ¬ FineP M vx vy vz wx wy wz := by unfold FineP; rw [if_neg m0]; exact g
              rw [decide_eq_false e]
              by_cases g1 : 16777216 ≤ M
              · by_cases g2 : M ≤ 4503599627370496
                · by_cases g3 : spI vx = vx ∧ spI vy = vy ∧ spI vz = vz
                  · have g4 : ¬ (spI wx = wx ∧ spI wy = wy ∧ spI wz = wz) := fun k => g ⟨⟨g1, g2⟩, g3, k⟩
                    simp (maxSteps := 10000000) [Tryz.f22, mvFixS, v0, v1, v2, w0, w1, w2, m0, g1, g2, g3, g4]
                  · simp (maxSteps := 10000000) [Tryz.f22, mvFixS, v0, v1, v2, m0, g1, g2, g3]
                · simp (maxSteps := 10000000) [Tryz.f22, mvFixS, m0, g1, g2]
              · simp (maxSteps := 10000000) [Tryz.f22, mvFixS, m0, g1]
        · refine ⟨_, _, _, (.bool (decide (FineP M vx vy vz wx wy wz))), hlaid, rfl, rfl, rfl, ?_⟩
          by_cases m0 : M = 0
          · subst m0
            by_cases e1 : vx = 0 ∧ vy = 0 ∧ vz = 0
            · by_cases e2 : wx = 0 ∧ wy = 0 ∧ wz = 0
              · have e : FineP 0 vx vy vz wx wy wz := by unfold FineP; rw [if_pos rfl]; exact ⟨e1, e2⟩
                rw [decide_eq_true e]
                simp (maxSteps := 10000000) [Tryz.f22, mvFixS, hE, e1, e2]
              · have e : ¬ FineP 0 vx vy vz wx wy wz := by unfold FineP; rw [if_pos rfl]; exact fun k => e2 k.2
                rw [decide_eq_false e]
                have e2' : (wx == 0 && (wy == 0 && wz == 0)) = false := by simpa using fun a b c => e2 ⟨a, b, c⟩
                simp (maxSteps := 10000000) [Tryz.f22, mvFixS, hE, e1, e2']
            · have e : ¬ FineP 0 vx vy vz wx wy wz := by unfold FineP; rw [if_pos rfl]; exact fun k => e1 k.1
              rw [decide_eq_false e]
              have e1' : (vx == 0 && (vy == 0 && vz == 0)) = false := by simpa using fun a b c => e1 ⟨a, b, c⟩
              simp (maxSteps := 10000000) [Tryz.f22, mvFixS, hE, e1']
          · by_cases g : (16777216 ≤ M ∧ M ≤ 4503599627370496) ∧ (spI vx = vx ∧ spI vy = vy ∧ spI vz = vz) ∧ (spI wx = wx ∧ spI wy = wy ∧ spI wz = wz)
            · have e : FineP M vx vy vz wx wy wz := by unfold FineP; rw [if_neg m0]; exact g
              rw [decide_eq_true e]
              obtain ⟨⟨g1, g2⟩, g3, g4⟩ := g
              simp (maxSteps := 10000000) [Tryz.f22, mvFixS, v0, v1, v2, w0, w1, w2, hE, m0, g1, g2, g3, g4]
            · have e : ¬ FineP M vx vy vz wx wy wz := by unfold FineP; rw [if_neg m0]; exact g
              rw [decide_eq_false e]
              by_cases g1 : 16777216 ≤ M
              · by_cases g2 : M ≤ 4503599627370496
                · by_cases g3 : spI vx = vx ∧ spI vy = vy ∧ spI vz = vz
                  · have g4 : ¬ (spI wx = wx ∧ spI wy = wy ∧ spI wz = wz) := fun k => g ⟨⟨g1, g2⟩, g3, k⟩
                    simp (maxSteps := 10000000) [Tryz.f22, mvFixS, v0, v1, v2, w0, w1, w2, hE, m0, g1, g2, g3, g4]
                  · simp (maxSteps := 10000000) [Tryz.f22, mvFixS, v0, v1, v2, hE, m0, g1, g2, g3]
                · simp (maxSteps := 10000000) [Tryz.f22, mvFixS, hE, m0, g1, g2]
              · simp (maxSteps := 10000000) [Tryz.f22, mvFixS, hE, m0, g1]
      · simp [*] at h
    · simp [*] at h
  · simp at h
end Go.X
end

section
namespace Go.X
open Go.Proofs
attribute [local irreducible] Good
noncomputable def boI (idn kd r x y z : Int) (n : Nat) (f : Nat → Int) (p1 p2 p3 q0 q1 q2 q3 M vx vy vz wx wy wz rub : Int) : Int :=
  if idn < 1 ∨ 4096 < idn then 2 else if thI kd r x y z n f p1 p2 p3 q0 q1 q2 q3 = 0 then (if FineP M vx vy vz wx wy wz ∧ 0 ≤ rub ∧ rub ≤ 17179869184 then 0 else 2) else thI kd r x y z n f p1 p2 p3 q0 q1 q2 q3
noncomputable def boCkS : Sum := fun args env _ => match args with
  | [.agg [.int .i64 idn, .int .i64 kd, .int .i64 r, .int .i64 x, .int .i64 y, .int .i64 z, l, .int .i64 p1, .int .i64 p2, .int .i64 p3, .int .i64 q0, .int .i64 q1, .int .i64 q2, .int .i64 q3, .int .i64 M, .int .i64 vx, .int .i64 vy, .int .i64 vz, .int .i64 wx, .int .i64 wy, .int .i64 wz, .int .i64 rub]] => match listE env l with
    | some (n, f) => open Classical in if (InI idn ∧ (InI p1 ∧ InI p2 ∧ InI p3 ∧ InI q0 ∧ InI q1 ∧ InI q2 ∧ InI q3) ∧ (InI M ∧ (InI vx ∧ InI vy ∧ InI vz) ∧ (InI wx ∧ InI wy ∧ InI wz)) ∧ InI rub) ∧ ShP kd r x y z n f then .val (.int .i64 (boI idn kd r x y z n f p1 p2 p3 q0 q1 q2 q3 M vx vy vz wx wy wz rub)) [] [] else .fail
    | none => .fail
  | _ => .fail
set_option maxHeartbeats 400000000 in
set_option maxRecDepth 100000 in
theorem boCk_ok : SumOk Tryz.prog 7 boCkS := by
  refine sum_read (L := fun _ => none) (n := 1) (S := stOf [(21, thCkS), (22, mvFineS)]) drawS Tryz.T_ok (stOf_ok (by simp [thCk_ok, mvFine_ok])) Tryz.func7 rfl (by kernel_rfl) (by kernel_rfl) ?_
  intro args env nxt h
  unfold boCkS at h ⊢
  split at h
  · rename_i idn kd r x y z l p1 p2 p3 q0 q1 q2 q3 M vx vy vz wx wy wz rub
    split at h
    · rename_i n f hl
      split at h
      · rename_i hc
        simp only [if_pos hc]
        obtain ⟨⟨hid, ⟨i1, i2, i3, j0, j1, j2, j3⟩, ⟨hM, ⟨v0, v1, v2⟩, w0, w1, w2⟩, hrub⟩, -⟩ := id hc
        rcases laid_shape (fun l => [.agg [.int .i64 idn, .int .i64 kd, .int .i64 r, .int .i64 x, .int .i64 y, .int .i64 z, l, .int .i64 p1, .int .i64 p2, .int .i64 p3, .int .i64 q0, .int .i64 q1, .int .i64 q2, .int .i64 q3, .int .i64 M, .int .i64 vx, .int .i64 vy, .int .i64 vz, .int .i64 wx, .int .i64 wy, .int .i64 wz, .int .i64 rub]]) hl (fun _ _ => rfl) (fun l => by simp) with ⟨rfl, rfl, rfl, hlaid⟩ | ⟨p, o1, c, items, ty, rfl, hlaid, hnc, hr', ⟨o, F, hrow, hf⟩, hE, hE2, hload⟩
        · refine ⟨_, _, _, (.int .i64 (boI idn kd r x y z 0 (fun _ => 0) p1 p2 p3 q0 q1 q2 q3 M vx vy vz wx wy wz rub)), hlaid, rfl, rfl, rfl, ?_⟩
          have hct := eq_true hc.2
          by_cases d1 : idn < 1
          · have e : boI idn kd r x y z 0 (fun _ => 0) p1 p2 p3 q0 q1 q2 q3 M vx vy vz wx wy wz rub = 2 := by unfold boI; rw [if_pos (.inl d1)]
            rw [e]
            simp (maxSteps := 10000000) [Tryz.f7, d1]
          by_cases d2 : 4096 < idn
          · have e : boI idn kd r x y z 0 (fun _ => 0) p1 p2 p3 q0 q1 q2 q3 M vx vy vz wx wy wz rub = 2 := by unfold boI; rw [if_pos (.inr d2)]
            rw [e]
            simp (maxSteps := 10000000) [Tryz.f7, d1, d2]
          have nd : ¬ (idn < 1 ∨ 4096 < idn) := fun k => k.elim d1 d2
          by_cases th : thI kd r x y z 0 (fun _ => 0) p1 p2 p3 q0 q1 q2 q3 = 0
          · by_cases g : FineP M vx vy vz wx wy wz ∧ 0 ≤ rub ∧ rub ≤ 17179869184
            · have e : boI idn kd r x y z 0 (fun _ => 0) p1 p2 p3 q0 q1 q2 q3 M vx vy vz wx wy wz rub = 0 := by unfold boI; rw [if_neg nd, if_pos th, if_pos g]
              rw [e]
              obtain ⟨g1, g2, g3⟩ := g
              have g2' : ¬ rub < 0 := by omega
              have g3' : ¬ 17179869184 < rub := by omega
              simp (maxSteps := 10000000) [Tryz.f7, thCkS, mvFineS, hct, i1, i2, i3, j0, j1, j2, j3, hM, v0, v1, v2, w0, w1, w2, d1, d2, th, g1, g2', g3']
            · have e : boI idn kd r x y z 0 (fun _ => 0) p1 p2 p3 q0 q1 q2 q3 M vx vy vz wx wy wz rub = 2 := by unfold boI; rw [if_neg nd, if_pos th, if_neg g]
              rw [e]
              by_cases g1 : FineP M vx vy vz wx wy wz
              · by_cases g2 : rub < 0
                · simp (maxSteps := 10000000) [Tryz.f7, thCkS, mvFineS, hct, i1, i2, i3, j0, j1, j2, j3, hM, v0, v1, v2, w0, w1, w2, d1, d2, th, g1, g2]
                · have g3 : 17179869184 < rub := by
                    rcases Int.lt_or_le 17179869184 rub with k | k
                    · exact k
                    · exact absurd ⟨g1, by omega, k⟩ g
                  simp (maxSteps := 10000000) [Tryz.f7, thCkS, mvFineS, hct, i1, i2, i3, j0, j1, j2, j3, hM, v0, v1, v2, w0, w1, w2, d1, d2, th, g1, g2, g3]
              · simp (maxSteps := 10000000) [Tryz.f7, thCkS, mvFineS, hct, i1, i2, i3, j0, j1, j2, j3, hM, v0, v1, v2, w0, w1, w2, d1, d2, th, g1]
          · have e : boI idn kd r x y z 0 (fun _ => 0) p1 p2 p3 q0 q1 q2 q3 M vx vy vz wx wy wz rub = thI kd r x y z 0 (fun _ => 0) p1 p2 p3 q0 q1 q2 q3 := by unfold boI; rw [if_neg nd, if_neg th]
            rw [e]
            simp (maxSteps := 10000000) [Tryz.f7, thCkS, hct, i1, i2, i3, j0, j1, j2, j3, d1, d2, th]
        · refine ⟨_, _, _, (.int .i64 (boI idn kd r x y z n f p1 p2 p3 q0 q1 q2 q3 M vx vy vz wx wy wz rub)), hlaid, rfl, rfl, rfl, ?_⟩
          have hct := eq_true hc.2
          by_cases d1 : idn < 1
          · have e : boI idn kd r x y z n f p1 p2 p3 q0 q1 q2 q3 M vx vy vz wx wy wz rub = 2 := by unfold boI; rw [if_pos (.inl d1)]
            rw [e]
            simp (maxSteps := 10000000) [Tryz.f7, d1]
          by_cases d2 : 4096 < idn
          · have e : boI idn kd r x y z n f p1 p2 p3 q0 q1 q2 q3 M vx vy vz wx wy wz rub = 2 := by unfold boI; rw [if_pos (.inr d2)]
            rw [e]
            simp (maxSteps := 10000000) [Tryz.f7, d1, d2]
          have nd : ¬ (idn < 1 ∨ 4096 < idn) := fun k => k.elim d1 d2
          by_cases th : thI kd r x y z n f p1 p2 p3 q0 q1 q2 q3 = 0
          · by_cases g : FineP M vx vy vz wx wy wz ∧ 0 ≤ rub ∧ rub ≤ 17179869184
            · have e : boI idn kd r x y z n f p1 p2 p3 q0 q1 q2 q3 M vx vy vz wx wy wz rub = 0 := by unfold boI; rw [if_neg nd, if_pos th, if_pos g]
              rw [e]
              obtain ⟨g1, g2, g3⟩ := g
              have g2' : ¬ rub < 0 := by omega
              have g3' : ¬ 17179869184 < rub := by omega
              simp (maxSteps := 10000000) [Tryz.f7, thCkS, mvFineS, hct, i1, i2, i3, j0, j1, j2, j3, hM, v0, v1, v2, w0, w1, w2, hE, d1, d2, th, g1, g2', g3']
            · have e : boI idn kd r x y z n f p1 p2 p3 q0 q1 q2 q3 M vx vy vz wx wy wz rub = 2 := by unfold boI; rw [if_neg nd, if_pos th, if_neg g]
              rw [e]
              by_cases g1 : FineP M vx vy vz wx wy wz
              · by_cases g2 : rub < 0
                · simp (maxSteps := 10000000) [Tryz.f7, thCkS, mvFineS, hct, i1, i2, i3, j0, j1, j2, j3, hM, v0, v1, v2, w0, w1, w2, hE, d1, d2, th, g1, g2]
                · have g3 : 17179869184 < rub := by
                    rcases Int.lt_or_le 17179869184 rub with k | k
                    · exact k
                    · exact absurd ⟨g1, by omega, k⟩ g
                  simp (maxSteps := 10000000) [Tryz.f7, thCkS, mvFineS, hct, i1, i2, i3, j0, j1, j2, j3, hM, v0, v1, v2, w0, w1, w2, hE, d1, d2, th, g1, g2, g3]
              · simp (maxSteps := 10000000) [Tryz.f7, thCkS, mvFineS, hct, i1, i2, i3, j0, j1, j2, j3, hM, v0, v1, v2, w0, w1, w2, hE, d1, d2, th, g1]
          · have e : boI idn kd r x y z n f p1 p2 p3 q0 q1 q2 q3 M vx vy vz wx wy wz rub = thI kd r x y z n f p1 p2 p3 q0 q1 q2 q3 := by unfold boI; rw [if_neg nd, if_neg th]
            rw [e]
            simp (maxSteps := 10000000) [Tryz.f7, thCkS, hct, i1, i2, i3, j0, j1, j2, j3, hE, d1, d2, th]
      · simp [*] at h
    · simp [*] at h
  · simp at h
end Go.X
end

section
namespace Go.X
open Go.Proofs
attribute [local irreducible] Good
theorem spI_0 : spI 0 = 0 := by decide
set_option maxHeartbeats 400000000 in
set_option maxRecDepth 100000 in
theorem r24Ck_ok : SumOk Tryz.prog 8 boCkS := by
  refine sum_read (L := fun _ => none) (n := 1) (S := stOf [(23, thCkS), (24, pureS r24clS)]) drawS Tryz.T_ok (stOf_ok (by simp [r18Ck_ok, r24cl_ok])) Tryz.func8 rfl (by kernel_rfl) (by kernel_rfl) ?_
  intro args env nxt h
  unfold boCkS at h ⊢
  split at h
  · rename_i idn kd r x y z l p1 p2 p3 q0 q1 q2 q3 M vx vy vz wx wy wz rub
    split at h
    · rename_i n f hl
      split at h
      · rename_i hc
        simp only [if_pos hc]
        obtain ⟨⟨hid, ⟨i1, i2, i3, j0, j1, j2, j3⟩, ⟨hM, ⟨v0, v1, v2⟩, w0, w1, w2⟩, hrub⟩, -⟩ := id hc
        rcases laid_shape (fun l => [.agg [.int .i64 idn, .int .i64 kd, .int .i64 r, .int .i64 x, .int .i64 y, .int .i64 z, l, .int .i64 p1, .int .i64 p2, .int .i64 p3, .int .i64 q0, .int .i64 q1, .int .i64 q2, .int .i64 q3, .int .i64 M, .int .i64 vx, .int .i64 vy, .int .i64 vz, .int .i64 wx, .int .i64 wy, .int .i64 wz, .int .i64 rub]]) hl (fun _ _ => rfl) (fun l => by simp) with ⟨rfl, rfl, rfl, hlaid⟩ | ⟨p, o1, c, items, ty, rfl, hlaid, hnc, hr', ⟨o, F, hrow, hf⟩, hE, hE2, hload⟩
        · refine ⟨_, _, _, (.int .i64 (boI idn kd r x y z 0 (fun _ => 0) p1 p2 p3 q0 q1 q2 q3 M vx vy vz wx wy wz rub)), hlaid, rfl, rfl, rfl, ?_⟩
          have hct := eq_true hc.2
          by_cases d1 : idn < 1
          · have e : boI idn kd r x y z 0 (fun _ => 0) p1 p2 p3 q0 q1 q2 q3 M vx vy vz wx wy wz rub = 2 := by unfold boI; rw [if_pos (.inl d1)]
            rw [e]
            simp (maxSteps := 10000000) [Tryz.f8, d1]
          by_cases d2 : 4096 < idn
          · have e : boI idn kd r x y z 0 (fun _ => 0) p1 p2 p3 q0 q1 q2 q3 M vx vy vz wx wy wz rub = 2 := by unfold boI; rw [if_pos (.inr d2)]
            rw [e]
            simp (maxSteps := 10000000) [Tryz.f8, d1, d2]
          have nd : ¬ (idn < 1 ∨ 4096 < idn) := fun k => k.elim d1 d2
          by_cases th : thI kd r x y z 0 (fun _ => 0) p1 p2 p3 q0 q1 q2 q3 = 0
          · by_cases g : FineP M vx vy vz wx wy wz ∧ 0 ≤ rub ∧ rub ≤ 17179869184
            · have e : boI idn kd r x y z 0 (fun _ => 0) p1 p2 p3 q0 q1 q2 q3 M vx vy vz wx wy wz rub = 0 := by unfold boI; rw [if_neg nd, if_pos th, if_pos g]
              rw [e]
              obtain ⟨g1, g2, g3⟩ := g
              have g2' : ¬ rub < 0 := by omega
              have g3' : ¬ 17179869184 < rub := by omega
              unfold FineP at g1
              by_cases m0 : M = 0
              · rw [if_pos m0] at g1
                obtain ⟨⟨rfl, rfl, rfl⟩, rfl, rfl, rfl⟩ := g1
                simp (maxSteps := 10000000) [Tryz.f8, thCkS, hct, spI_0, i1, i2, i3, j0, j1, j2, j3, v0, d1, d2, th, m0, g2', g3']
              · rw [if_neg m0] at g1
                obtain ⟨⟨a1, a2⟩, ⟨b1, b2, b3⟩, b4, b5, b6⟩ := g1
                have m1 : (M == 0) = false := by simpa using m0
                have m2 : (M != 0) = true := by simpa using m0
                have a1' : ¬ M < 16777216 := by omega
                have a2' : ¬ 4503599627370496 < M := by omega
                simp (maxSteps := 10000000) [Tryz.f8, thCkS, hct, i1, i2, i3, j0, j1, j2, j3, v0, v1, v2, w0, w1, w2, d1, d2, th, m1, m2, a1', a2', b1, b2, b3, b4, b5, b6, g2', g3']
            · have e : boI idn kd r x y z 0 (fun _ => 0) p1 p2 p3 q0 q1 q2 q3 M vx vy vz wx wy wz rub = 2 := by unfold boI; rw [if_neg nd, if_pos th, if_neg g]
              rw [e]
              by_cases m0 : M = 0
              · by_cases b1 : vx = 0 ∧ vy = 0 ∧ vz = 0
                · by_cases b2 : wx = 0 ∧ wy = 0 ∧ wz = 0
                  · have f : FineP M vx vy vz wx wy wz := by unfold FineP; rw [if_pos m0]; exact ⟨b1, b2⟩
                    obtain ⟨rfl, rfl, rfl⟩ := b1
                    obtain ⟨rfl, rfl, rfl⟩ := b2
                    by_cases g2 : rub < 0
                    · simp (maxSteps := 10000000) [Tryz.f8, thCkS, hct, spI_0, i1, i2, i3, j0, j1, j2, j3, v0, d1, d2, th, m0, g2]
                    · have g3 : 17179869184 < rub := by
                        rcases Int.lt_or_le 17179869184 rub with k | k
                        · exact k
                        · exact absurd ⟨f, by omega, k⟩ g
                      simp (maxSteps := 10000000) [Tryz.f8, thCkS, hct, spI_0, i1, i2, i3, j0, j1, j2, j3, v0, d1, d2, th, m0, g2, g3]
                  · have b2' : (wx == 0 && (wy == 0 && wz == 0)) = false := by simpa using fun a b c => b2 ⟨a, b, c⟩
                    simp (maxSteps := 10000000) [Tryz.f8, thCkS, hct, i1, i2, i3, j0, j1, j2, j3, d1, d2, th, m0, b1, b2']
                · have b1' : (vx == 0 && (vy == 0 && vz == 0)) = false := by simpa using fun a b c => b1 ⟨a, b, c⟩
                  simp (maxSteps := 10000000) [Tryz.f8, thCkS, hct, i1, i2, i3, j0, j1, j2, j3, d1, d2, th, m0, b1']
              · have m1 : (M == 0) = false := by simpa using m0
                have m2 : (M != 0) = true := by simpa using m0
                by_cases a1 : M < 16777216
                · simp (maxSteps := 10000000) [Tryz.f8, thCkS, hct, i1, i2, i3, j0, j1, j2, j3, d1, d2, th, m1, m2, a1]
                · by_cases a2 : 4503599627370496 < M
                  · simp (maxSteps := 10000000) [Tryz.f8, thCkS, hct, i1, i2, i3, j0, j1, j2, j3, d1, d2, th, m1, m2, a1, a2]
                  · by_cases b1 : spI vx = vx ∧ spI vy = vy ∧ spI vz = vz
                    · by_cases b2 : spI wx = wx ∧ spI wy = wy ∧ spI wz = wz
                      · have f : FineP M vx vy vz wx wy wz := by unfold FineP; rw [if_neg m0]; exact ⟨⟨by omega, by omega⟩, b1, b2⟩
                        by_cases g2 : rub < 0
                        · simp (maxSteps := 10000000) [Tryz.f8, thCkS, hct, i1, i2, i3, j0, j1, j2, j3, v0, v1, v2, w0, w1, w2, d1, d2, th, m1, m2, a1, a2, b1, b2, g2]
                        · have g3 : 17179869184 < rub := by
                            rcases Int.lt_or_le 17179869184 rub with k | k
                            · exact k
                            · exact absurd ⟨f, by omega, k⟩ g
                          simp (maxSteps := 10000000) [Tryz.f8, thCkS, hct, i1, i2, i3, j0, j1, j2, j3, v0, v1, v2, w0, w1, w2, d1, d2, th, m1, m2, a1, a2, b1, b2, g2, g3]
                      · have b2' : (spI wx == wx && (spI wy == wy && spI wz == wz)) = false := by simpa using fun a b c => b2 ⟨a, b, c⟩
                        simp (maxSteps := 10000000) [Tryz.f8, thCkS, hct, i1, i2, i3, j0, j1, j2, j3, v0, v1, v2, w0, w1, w2, d1, d2, th, m1, m2, a1, a2, b1, b2']
                    · have b1' : (spI vx == vx && (spI vy == vy && spI vz == vz)) = false := by simpa using fun a b c => b1 ⟨a, b, c⟩
                      simp (maxSteps := 10000000) [Tryz.f8, thCkS, hct, i1, i2, i3, j0, j1, j2, j3, v0, v1, v2, d1, d2, th, m1, m2, a1, a2, b1']
          · have e : boI idn kd r x y z 0 (fun _ => 0) p1 p2 p3 q0 q1 q2 q3 M vx vy vz wx wy wz rub = thI kd r x y z 0 (fun _ => 0) p1 p2 p3 q0 q1 q2 q3 := by unfold boI; rw [if_neg nd, if_neg th]
            rw [e]
            simp (maxSteps := 10000000) [Tryz.f8, thCkS, hct, i1, i2, i3, j0, j1, j2, j3, d1, d2, th]
        · refine ⟨_, _, _, (.int .i64 (boI idn kd r x y z n f p1 p2 p3 q0 q1 q2 q3 M vx vy vz wx wy wz rub)), hlaid, rfl, rfl, rfl, ?_⟩
          have hct := eq_true hc.2
          by_cases d1 : idn < 1
          · have e : boI idn kd r x y z n f p1 p2 p3 q0 q1 q2 q3 M vx vy vz wx wy wz rub = 2 := by unfold boI; rw [if_pos (.inl d1)]
            rw [e]
            simp (maxSteps := 10000000) [Tryz.f8, d1]
          by_cases d2 : 4096 < idn
          · have e : boI idn kd r x y z n f p1 p2 p3 q0 q1 q2 q3 M vx vy vz wx wy wz rub = 2 := by unfold boI; rw [if_pos (.inr d2)]
            rw [e]
            simp (maxSteps := 10000000) [Tryz.f8, d1, d2]
          have nd : ¬ (idn < 1 ∨ 4096 < idn) := fun k => k.elim d1 d2
          by_cases th : thI kd r x y z n f p1 p2 p3 q0 q1 q2 q3 = 0
          · by_cases g : FineP M vx vy vz wx wy wz ∧ 0 ≤ rub ∧ rub ≤ 17179869184
            · have e : boI idn kd r x y z n f p1 p2 p3 q0 q1 q2 q3 M vx vy vz wx wy wz rub = 0 := by unfold boI; rw [if_neg nd, if_pos th, if_pos g]
              rw [e]
              obtain ⟨g1, g2, g3⟩ := g
              have g2' : ¬ rub < 0 := by omega
              have g3' : ¬ 17179869184 < rub := by omega
              unfold FineP at g1
              by_cases m0 : M = 0
              · rw [if_pos m0] at g1
                obtain ⟨⟨rfl, rfl, rfl⟩, rfl, rfl, rfl⟩ := g1
                simp (maxSteps := 10000000) [Tryz.f8, thCkS, hct, spI_0, i1, i2, i3, j0, j1, j2, j3, v0, hE, d1, d2, th, m0, g2', g3']
              · rw [if_neg m0] at g1
                obtain ⟨⟨a1, a2⟩, ⟨b1, b2, b3⟩, b4, b5, b6⟩ := g1
                have m1 : (M == 0) = false := by simpa using m0
                have m2 : (M != 0) = true := by simpa using m0
                have a1' : ¬ M < 16777216 := by omega
                have a2' : ¬ 4503599627370496 < M := by omega
                simp (maxSteps := 10000000) [Tryz.f8, thCkS, hct, i1, i2, i3, j0, j1, j2, j3, v0, v1, v2, w0, w1, w2, hE, d1, d2, th, m1, m2, a1', a2', b1, b2, b3, b4, b5, b6, g2', g3']
            · have e : boI idn kd r x y z n f p1 p2 p3 q0 q1 q2 q3 M vx vy vz wx wy wz rub = 2 := by unfold boI; rw [if_neg nd, if_pos th, if_neg g]
              rw [e]
              by_cases m0 : M = 0
              · by_cases b1 : vx = 0 ∧ vy = 0 ∧ vz = 0
                · by_cases b2 : wx = 0 ∧ wy = 0 ∧ wz = 0
                  · have f : FineP M vx vy vz wx wy wz := by unfold FineP; rw [if_pos m0]; exact ⟨b1, b2⟩
                    obtain ⟨rfl, rfl, rfl⟩ := b1
                    obtain ⟨rfl, rfl, rfl⟩ := b2
                    by_cases g2 : rub < 0
                    · simp (maxSteps := 10000000) [Tryz.f8, thCkS, hct, spI_0, i1, i2, i3, j0, j1, j2, j3, v0, hE, d1, d2, th, m0, g2]
                    · have g3 : 17179869184 < rub := by
                        rcases Int.lt_or_le 17179869184 rub with k | k
                        · exact k
                        · exact absurd ⟨f, by omega, k⟩ g
                      simp (maxSteps := 10000000) [Tryz.f8, thCkS, hct, spI_0, i1, i2, i3, j0, j1, j2, j3, v0, hE, d1, d2, th, m0, g2, g3]
                  · have b2' : (wx == 0 && (wy == 0 && wz == 0)) = false := by simpa using fun a b c => b2 ⟨a, b, c⟩
                    simp (maxSteps := 10000000) [Tryz.f8, thCkS, hct, i1, i2, i3, j0, j1, j2, j3, hE, d1, d2, th, m0, b1, b2']
                · have b1' : (vx == 0 && (vy == 0 && vz == 0)) = false := by simpa using fun a b c => b1 ⟨a, b, c⟩
                  simp (maxSteps := 10000000) [Tryz.f8, thCkS, hct, i1, i2, i3, j0, j1, j2, j3, hE, d1, d2, th, m0, b1']
              · have m1 : (M == 0) = false := by simpa using m0
                have m2 : (M != 0) = true := by simpa using m0
                by_cases a1 : M < 16777216
                · simp (maxSteps := 10000000) [Tryz.f8, thCkS, hct, i1, i2, i3, j0, j1, j2, j3, hE, d1, d2, th, m1, m2, a1]
                · by_cases a2 : 4503599627370496 < M
                  · simp (maxSteps := 10000000) [Tryz.f8, thCkS, hct, i1, i2, i3, j0, j1, j2, j3, hE, d1, d2, th, m1, m2, a1, a2]
                  · by_cases b1 : spI vx = vx ∧ spI vy = vy ∧ spI vz = vz
                    · by_cases b2 : spI wx = wx ∧ spI wy = wy ∧ spI wz = wz
                      · have f : FineP M vx vy vz wx wy wz := by unfold FineP; rw [if_neg m0]; exact ⟨⟨by omega, by omega⟩, b1, b2⟩
                        by_cases g2 : rub < 0
                        · simp (maxSteps := 10000000) [Tryz.f8, thCkS, hct, i1, i2, i3, j0, j1, j2, j3, v0, v1, v2, w0, w1, w2, hE, d1, d2, th, m1, m2, a1, a2, b1, b2, g2]
                        · have g3 : 17179869184 < rub := by
                            rcases Int.lt_or_le 17179869184 rub with k | k
                            · exact k
                            · exact absurd ⟨f, by omega, k⟩ g
                          simp (maxSteps := 10000000) [Tryz.f8, thCkS, hct, i1, i2, i3, j0, j1, j2, j3, v0, v1, v2, w0, w1, w2, hE, d1, d2, th, m1, m2, a1, a2, b1, b2, g2, g3]
                      · have b2' : (spI wx == wx && (spI wy == wy && spI wz == wz)) = false := by simpa using fun a b c => b2 ⟨a, b, c⟩
                        simp (maxSteps := 10000000) [Tryz.f8, thCkS, hct, i1, i2, i3, j0, j1, j2, j3, v0, v1, v2, w0, w1, w2, hE, d1, d2, th, m1, m2, a1, a2, b1, b2']
                    · have b1' : (spI vx == vx && (spI vy == vy && spI vz == vz)) = false := by simpa using fun a b c => b1 ⟨a, b, c⟩
                      simp (maxSteps := 10000000) [Tryz.f8, thCkS, hct, i1, i2, i3, j0, j1, j2, j3, v0, v1, v2, hE, d1, d2, th, m1, m2, a1, a2, b1']
          · have e : boI idn kd r x y z n f p1 p2 p3 q0 q1 q2 q3 M vx vy vz wx wy wz rub = thI kd r x y z n f p1 p2 p3 q0 q1 q2 q3 := by unfold boI; rw [if_neg nd, if_neg th]
            rw [e]
            simp (maxSteps := 10000000) [Tryz.f8, thCkS, hct, i1, i2, i3, j0, j1, j2, j3, hE, d1, d2, th]
      · simp [*] at h
    · simp [*] at h
  · simp at h
end Go.X
end

section

end
