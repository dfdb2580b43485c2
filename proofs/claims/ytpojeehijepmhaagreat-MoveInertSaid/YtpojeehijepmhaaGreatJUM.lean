/- Masses of shapes with a list: the document's; their sides. -/
import Derived.Test.YtpojeehijepmhaaGreatJUM0
namespace Go.X
open Go.Proofs
attribute [local irreducible] Good
noncomputable def hfI (kd r x y z : Int) (n : Nat) (f : Nat → Int) (c : Nat) : Int := mxI (coF kd x y z f) c (coN kd n) + r
theorem hfI_bd {kd r x y z : Int} {n : Nat} {f : Nat → Int} {c : Nat} (hc : c < 3) (h : ckI kd r x y z n f = 0) : 0 ≤ hfI kd r x y z n f c ∧ hfI kd r x y z n f c ≤ 549755813888 := by
  obtain ⟨r0, r1, hs, M1, M2, hsm⟩ := ck_ok h
  have := mxI_bd (F := coF kd x y z f) (c := c) hc hsm
  unfold hfI; omega
noncomputable def mOfBS : Sum := fun args env _ => match args with
  | [.agg [.int .i64 kd, .int .i64 r, .int .i64 x, .int .i64 y, .int .i64 z, l], .int .i64 m] => match listE env l with
    | some (n, f) => open Classical in if ShP kd r x y z n f ∧ InI m then .val (if ckI kd r x y z n f = 0 ∧ 16777216 ≤ m ∧ m ≤ 4503599627370496 then .tup [.agg [.int .i64 m, .int .i64 (momI m (hfI kd r x y z n f 1) (hfI kd r x y z n f 2)), .int .i64 (momI m (hfI kd r x y z n f 0) (hfI kd r x y z n f 2)), .int .i64 (momI m (hfI kd r x y z n f 0) (hfI kd r x y z n f 1))], .int .i64 0] else .tup [.agg [.int .i64 0, .int .i64 0, .int .i64 0, .int .i64 0], .int .i64 (if ckI kd r x y z n f = 0 then 2 else ckI kd r x y z n f)]) [] [] else .fail
    | none => .fail
  | _ => .fail
set_option maxHeartbeats 400000000 in
set_option maxRecDepth 100000 in
theorem mOfB_ok : SumOk Tryz.prog 15 mOfBS := by
  refine sum_read (L := fun i => if i = 8 then some (.quiet 21) else none) (n := 1) (S := stOf [(36, mmomS), (32, halfBS)]) drawS Tryz.T_ok (stOf_ok (by simp [mmom_ok, halfB_ok])) Tryz.func15 rfl (by kernel_rfl) (by kernel_rfl) ?_
  intro args env nxt h
  unfold mOfBS at h ⊢
  split at h
  · rename_i kd r x y z l m
    split at h
    · rename_i n f hl
      split at h
      · rename_i hc
        simp only [if_pos hc]
        obtain ⟨⟨hkd, hr, hx, hy, hz, hn, hF⟩, hm⟩ := id hc
        rcases laid_shape (fun l => [.agg [.int .i64 kd, .int .i64 r, .int .i64 x, .int .i64 y, .int .i64 z, l], .int .i64 m]) hl (fun _ _ => rfl) (fun l => by simp) with ⟨rfl, rfl, rfl, hlaid⟩ | ⟨p, o1, c, items, ty, rfl, hlaid, hnc, hr', ⟨o, F, hrow, hf⟩, hE, hE2, hload⟩
        · refine ⟨_, _, _, if ckI kd r x y z 0 (fun _ => 0) = 0 ∧ 16777216 ≤ m ∧ m ≤ 4503599627370496 then .tup [.agg [.int .i64 m, .int .i64 (momI m (hfI kd r x y z 0 (fun _ => 0) 1) (hfI kd r x y z 0 (fun _ => 0) 2)), .int .i64 (momI m (hfI kd r x y z 0 (fun _ => 0) 0) (hfI kd r x y z 0 (fun _ => 0) 2)), .int .i64 (momI m (hfI kd r x y z 0 (fun _ => 0) 0) (hfI kd r x y z 0 (fun _ => 0) 1))], .int .i64 0] else .tup [.agg [.int .i64 0, .int .i64 0, .int .i64 0, .int .i64 0], .int .i64 (if ckI kd r x y z 0 (fun _ => 0) = 0 then 2 else ckI kd r x y z 0 (fun _ => 0))], hlaid, rfl, by first | rfl | (split <;> rfl), by first | rfl | (split <;> rfl), ?_⟩
          have hct := eq_true hc.1
          obtain ⟨v, hv⟩ : ∃ v, ckI kd r x y z 0 (fun _ => 0) = v := ⟨_, rfl⟩
          by_cases ok : v = 0
          · subst ok
            have b0 := hfI_bd (c := 0) (by decide) hv
            have b1 := hfI_bd (c := 1) (by decide) hv
            have b2 := hfI_bd (c := 2) (by decide) hv
            have i0 : InI (hfI kd r x y z 0 (fun _ => 0) 0) := by unfold InI; omega
            have i1 : InI (hfI kd r x y z 0 (fun _ => 0) 1) := by unfold InI; omega
            have i2 : InI (hfI kd r x y z 0 (fun _ => 0) 2) := by unfold InI; omega
            have e0 : mxI (coF kd x y z (fun _ => 0)) 0 (coN kd 0) + r = hfI kd r x y z 0 (fun _ => 0) 0 := rfl
            have e1 : mxI (coF kd x y z (fun _ => 0)) 1 (coN kd 0) + r = hfI kd r x y z 0 (fun _ => 0) 1 := rfl
            have e2 : mxI (coF kd x y z (fun _ => 0)) 2 (coN kd 0) + r = hfI kd r x y z 0 (fun _ => 0) 2 := rfl
            by_cases l1 : 16777216 ≤ m
            · have l1' : ¬ m < 16777216 := by omega
              by_cases l2 : m ≤ 4503599627370496
              · have l2' : ¬ 4503599627370496 < m := by omega
                simp (maxSteps := 10000000) [Tryz.f15, halfBS, hct, hv, l1, l2, l1', l2', e0, e1, e2, i0, i1, i2, hm, mmomS]
              · have l2' : 4503599627370496 < m := by omega
                simp (maxSteps := 10000000) [Tryz.f15, halfBS, hct, hv, l1, l2, l1', l2', e0, e1, e2]
            · have l1' : m < 16777216 := by omega
              simp (maxSteps := 10000000) [Tryz.f15, halfBS, hct, hv, l1, l1', e0, e1, e2]
          · simp (maxSteps := 10000000) [Tryz.f15, halfBS, hct, hv, ok]
        · refine ⟨_, _, _, if ckI kd r x y z n f = 0 ∧ 16777216 ≤ m ∧ m ≤ 4503599627370496 then .tup [.agg [.int .i64 m, .int .i64 (momI m (hfI kd r x y z n f 1) (hfI kd r x y z n f 2)), .int .i64 (momI m (hfI kd r x y z n f 0) (hfI kd r x y z n f 2)), .int .i64 (momI m (hfI kd r x y z n f 0) (hfI kd r x y z n f 1))], .int .i64 0] else .tup [.agg [.int .i64 0, .int .i64 0, .int .i64 0, .int .i64 0], .int .i64 (if ckI kd r x y z n f = 0 then 2 else ckI kd r x y z n f)], hlaid, rfl, by first | rfl | (split <;> rfl), by first | rfl | (split <;> rfl), ?_⟩
          have hct := eq_true hc.1
          obtain ⟨v, hv⟩ : ∃ v, ckI kd r x y z n f = v := ⟨_, rfl⟩
          by_cases ok : v = 0
          · subst ok
            have b0 := hfI_bd (c := 0) (by decide) hv
            have b1 := hfI_bd (c := 1) (by decide) hv
            have b2 := hfI_bd (c := 2) (by decide) hv
            have i0 : InI (hfI kd r x y z n f 0) := by unfold InI; omega
            have i1 : InI (hfI kd r x y z n f 1) := by unfold InI; omega
            have i2 : InI (hfI kd r x y z n f 2) := by unfold InI; omega
            have e0 : mxI (coF kd x y z f) 0 (coN kd n) + r = hfI kd r x y z n f 0 := rfl
            have e1 : mxI (coF kd x y z f) 1 (coN kd n) + r = hfI kd r x y z n f 1 := rfl
            have e2 : mxI (coF kd x y z f) 2 (coN kd n) + r = hfI kd r x y z n f 2 := rfl
            by_cases l1 : 16777216 ≤ m
            · have l1' : ¬ m < 16777216 := by omega
              by_cases l2 : m ≤ 4503599627370496
              · have l2' : ¬ 4503599627370496 < m := by omega
                simp (maxSteps := 10000000) [Tryz.f15, halfBS, hct, hE, hv, l1, l2, l1', l2', e0, e1, e2, i0, i1, i2, hm, mmomS]
              · have l2' : 4503599627370496 < m := by omega
                simp (maxSteps := 10000000) [Tryz.f15, halfBS, hct, hE, hv, l1, l2, l1', l2', e0, e1, e2]
            · have l1' : m < 16777216 := by omega
              simp (maxSteps := 10000000) [Tryz.f15, halfBS, hct, hE, hv, l1, l1', e0, e1, e2]
          · simp (maxSteps := 10000000) [Tryz.f15, halfBS, hct, hE, hv, ok]
      · simp [*] at h
    · simp [*] at h
  · simp at h
set_option maxHeartbeats 400000000 in
set_option maxRecDepth 100000 in
theorem r10of_ok : SumOk Tryz.prog 18 mOfBS := by
  refine sum_read (L := fun i => if i = 6 then some (.quiet 21) else none) (n := 1) (S := stOf [(44, pureS r10momS), (43, halfBS)]) drawS Tryz.T_ok (stOf_ok (by simp [r10mom_ok, r9half_ok])) Tryz.func18 rfl (by kernel_rfl) (by kernel_rfl) ?_
  intro args env nxt h
  unfold mOfBS at h ⊢
  split at h
  · rename_i kd r x y z l m
    split at h
    · rename_i n f hl
      split at h
      · rename_i hc
        simp only [if_pos hc]
        obtain ⟨⟨hkd, hr, hx, hy, hz, hn, hF⟩, hm⟩ := id hc
        rcases laid_shape (fun l => [.agg [.int .i64 kd, .int .i64 r, .int .i64 x, .int .i64 y, .int .i64 z, l], .int .i64 m]) hl (fun _ _ => rfl) (fun l => by simp) with ⟨rfl, rfl, rfl, hlaid⟩ | ⟨p, o1, c, items, ty, rfl, hlaid, hnc, hr', ⟨o, F, hrow, hf⟩, hE, hE2, hload⟩
        · refine ⟨_, _, _, if ckI kd r x y z 0 (fun _ => 0) = 0 ∧ 16777216 ≤ m ∧ m ≤ 4503599627370496 then .tup [.agg [.int .i64 m, .int .i64 (momI m (hfI kd r x y z 0 (fun _ => 0) 1) (hfI kd r x y z 0 (fun _ => 0) 2)), .int .i64 (momI m (hfI kd r x y z 0 (fun _ => 0) 0) (hfI kd r x y z 0 (fun _ => 0) 2)), .int .i64 (momI m (hfI kd r x y z 0 (fun _ => 0) 0) (hfI kd r x y z 0 (fun _ => 0) 1))], .int .i64 0] else .tup [.agg [.int .i64 0, .int .i64 0, .int .i64 0, .int .i64 0], .int .i64 (if ckI kd r x y z 0 (fun _ => 0) = 0 then 2 else ckI kd r x y z 0 (fun _ => 0))], hlaid, rfl, by first | rfl | (split <;> rfl), by first | rfl | (split <;> rfl), ?_⟩
          have hct := eq_true hc.1
          obtain ⟨v, hv⟩ : ∃ v, ckI kd r x y z 0 (fun _ => 0) = v := ⟨_, rfl⟩
          by_cases ok : v = 0
          · subst ok
            have b0 := hfI_bd (c := 0) (by decide) hv
            have b1 := hfI_bd (c := 1) (by decide) hv
            have b2 := hfI_bd (c := 2) (by decide) hv
            have i0 : InI (hfI kd r x y z 0 (fun _ => 0) 0) := by unfold InI; omega
            have i1 : InI (hfI kd r x y z 0 (fun _ => 0) 1) := by unfold InI; omega
            have i2 : InI (hfI kd r x y z 0 (fun _ => 0) 2) := by unfold InI; omega
            have e0 : mxI (coF kd x y z (fun _ => 0)) 0 (coN kd 0) + r = hfI kd r x y z 0 (fun _ => 0) 0 := rfl
            have e1 : mxI (coF kd x y z (fun _ => 0)) 1 (coN kd 0) + r = hfI kd r x y z 0 (fun _ => 0) 1 := rfl
            have e2 : mxI (coF kd x y z (fun _ => 0)) 2 (coN kd 0) + r = hfI kd r x y z 0 (fun _ => 0) 2 := rfl
            by_cases l1 : 16777216 ≤ m
            · have l1' : ¬ m < 16777216 := by omega
              by_cases l2 : m ≤ 4503599627370496
              · have l2' : ¬ 4503599627370496 < m := by omega
                simp (maxSteps := 10000000) [Tryz.f18, halfBS, hct, hv, l1, l2, l1', l2', e0, e1, e2, i0, i1, i2, hm]
              · have l2' : 4503599627370496 < m := by omega
                simp (maxSteps := 10000000) [Tryz.f18, halfBS, hct, hv, l1, l2, l1', l2', e0, e1, e2]
            · have l1' : m < 16777216 := by omega
              simp (maxSteps := 10000000) [Tryz.f18, halfBS, hct, hv, l1, l1', e0, e1, e2]
          · simp (maxSteps := 10000000) [Tryz.f18, halfBS, hct, hv, ok]
        · refine ⟨_, _, _, if ckI kd r x y z n f = 0 ∧ 16777216 ≤ m ∧ m ≤ 4503599627370496 then .tup [.agg [.int .i64 m, .int .i64 (momI m (hfI kd r x y z n f 1) (hfI kd r x y z n f 2)), .int .i64 (momI m (hfI kd r x y z n f 0) (hfI kd r x y z n f 2)), .int .i64 (momI m (hfI kd r x y z n f 0) (hfI kd r x y z n f 1))], .int .i64 0] else .tup [.agg [.int .i64 0, .int .i64 0, .int .i64 0, .int .i64 0], .int .i64 (if ckI kd r x y z n f = 0 then 2 else ckI kd r x y z n f)], hlaid, rfl, by first | rfl | (split <;> rfl), by first | rfl | (split <;> rfl), ?_⟩
          have hct := eq_true hc.1
          obtain ⟨v, hv⟩ : ∃ v, ckI kd r x y z n f = v := ⟨_, rfl⟩
          by_cases ok : v = 0
          · subst ok
            have b0 := hfI_bd (c := 0) (by decide) hv
            have b1 := hfI_bd (c := 1) (by decide) hv
            have b2 := hfI_bd (c := 2) (by decide) hv
            have i0 : InI (hfI kd r x y z n f 0) := by unfold InI; omega
            have i1 : InI (hfI kd r x y z n f 1) := by unfold InI; omega
            have i2 : InI (hfI kd r x y z n f 2) := by unfold InI; omega
            have e0 : mxI (coF kd x y z f) 0 (coN kd n) + r = hfI kd r x y z n f 0 := rfl
            have e1 : mxI (coF kd x y z f) 1 (coN kd n) + r = hfI kd r x y z n f 1 := rfl
            have e2 : mxI (coF kd x y z f) 2 (coN kd n) + r = hfI kd r x y z n f 2 := rfl
            by_cases l1 : 16777216 ≤ m
            · have l1' : ¬ m < 16777216 := by omega
              by_cases l2 : m ≤ 4503599627370496
              · have l2' : ¬ 4503599627370496 < m := by omega
                simp (maxSteps := 10000000) [Tryz.f18, halfBS, hct, hE, hv, l1, l2, l1', l2', e0, e1, e2, i0, i1, i2, hm]
              · have l2' : 4503599627370496 < m := by omega
                simp (maxSteps := 10000000) [Tryz.f18, halfBS, hct, hE, hv, l1, l2, l1', l2', e0, e1, e2]
            · have l1' : m < 16777216 := by omega
              simp (maxSteps := 10000000) [Tryz.f18, halfBS, hct, hE, hv, l1, l1', e0, e1, e2]
          · simp (maxSteps := 10000000) [Tryz.f18, halfBS, hct, hE, hv, ok]
      · simp [*] at h
    · simp [*] at h
  · simp at h
end Go.X
