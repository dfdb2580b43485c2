/- Moments of a shape: their sides. -/
import Derived.Test.YtgejbdalmjopiaaJSI
import Derived.Test.YtgejbdalmjopiaaJUM
namespace Go.X
open Go.Proofs
attribute [local irreducible] Good
noncomputable def lawSides10S : Sum := fun args env _ => match args with
  | [.agg [.int .i64 kd, .int .i64 r, .int .i64 x, .int .i64 y, .int .i64 z, l], .int .i64 mu, .int .i64 nu] => match listE env l with
    | some (n, f) => open Classical in if LwP kd r x y z n f ∧ InI mu ∧ InI nu then .val (.bool true) [] [] else .fail
    | none => .fail
  | _ => .fail
set_option maxHeartbeats 400000000 in
set_option maxRecDepth 100000 in
theorem lawSides10_ok : SumOk Try.prog 7 lawSides10S := by
  refine sum_read (L := fun _ => none) (n := 1) (S := stOf [(19, mOfBS), (20, pureS faddS), (18, pureS awake10S)]) drawS Try.T_ok (stOf_ok (by simp [mOfB_ok, fadd_ok, awake10_ok])) Try.func7 rfl (by kernel_rfl) (by kernel_rfl) ?_
  intro args env nxt h
  unfold lawSides10S at h ⊢
  split at h
  · rename_i kd r x y z l mu nu
    split at h
    · rename_i n f hl
      split at h
      · rename_i hc
        simp only [if_pos hc]
        obtain ⟨hlw, hmu, hnu⟩ := id hc
        rcases laid_shape (fun l => [.agg [.int .i64 kd, .int .i64 r, .int .i64 x, .int .i64 y, .int .i64 z, l], .int .i64 mu, .int .i64 nu]) hl (fun _ _ => rfl) (fun l => by simp) with ⟨rfl, rfl, rfl, hlaid⟩ | ⟨p, o1, c, items, ty, rfl, hlaid, hnc, hr', -, hE, hE2, hload⟩
        · refine ⟨_, _, _, .bool true, hlaid, rfl, rfl, rfl, ?_⟩
          have hct := eq_true (hlw.sh (by decide))
          by_cases cm : nu < mu
          · have mn : (if nu < mu then nu else mu) = nu := if_pos cm
            have mx : (if mu < nu then nu else mu) = mu := if_neg (by omega)
            obtain ⟨v, hv⟩ : ∃ v, ckI kd r x y z 0 (fun _ => 0) = v := ⟨_, rfl⟩
            by_cases ok : v = 0
            · subst ok
              have b0 := hfI_bd (c := 0) (by decide) hv
              have b1 := hfI_bd (c := 1) (by decide) hv
              have b2 := hfI_bd (c := 2) (by decide) hv
              obtain ⟨a, ha⟩ : ∃ a, hfI kd r x y z 0 (fun _ => 0) 0 = a := ⟨_, rfl⟩
              obtain ⟨b, hb⟩ : ∃ a, hfI kd r x y z 0 (fun _ => 0) 1 = a := ⟨_, rfl⟩
              obtain ⟨c, hc'⟩ : ∃ a, hfI kd r x y z 0 (fun _ => 0) 2 = a := ⟨_, rfl⟩
              by_cases l1 : 16777216 ≤ nu ∧ nu ≤ 4503599627370496
              · obtain ⟨l1a, l1b⟩ := l1
                by_cases l2 : 16777216 ≤ mu ∧ mu ≤ 4503599627370496
                · obtain ⟨l2a, l2b⟩ := l2
                  have g1 : 0 ≤ momI nu b c := momI_nn (by omega)
                  have g2 : 0 ≤ momI nu a c := momI_nn (by omega)
                  have g3 : 0 ≤ momI nu a b := momI_nn (by omega)
                  have s1 : momI nu b c ≤ clampI (clampI (momI nu a c + momI nu a b) + 1) := mom_side (by omega)
                  have s2 : momI nu a c ≤ clampI (clampI (momI nu b c + momI nu a b) + 1) := by
                    have := mom_side (m := nu) (a := b) (b := a) (c := c) (by omega)
                    rwa [momI_swap (a := b) (b := a)] at this
                  have s3 : momI nu a b ≤ clampI (clampI (momI nu b c + momI nu a c) + 1) := by
                    have := mom_side (m := nu) (a := c) (b := a) (c := b) (by omega)
                    rwa [momI_swap (a := c) (b := b), momI_swap (a := c) (b := a)] at this
                  have m1 : momI nu b c ≤ momI mu b c := momI_more (by omega)
                  have m2 : momI nu a c ≤ momI mu a c := momI_more (by omega)
                  have m3 : momI nu a b ≤ momI mu a b := momI_more (by omega)
                  have le : nu ≤ mu := by omega
                  simp (maxSteps := 10000000) [Try.f7, mOfBS, hmu, hnu, hct, hv, ha, hb, hc', mn, mx, l1a, l1b, l2a, l2b, momI_in, InI_clamp, (show InI 1 by decide), g1, g2, g3, s1, s2, s3, m1, m2, m3, le]
                · simp (maxSteps := 10000000) [Try.f7, mOfBS, hmu, hnu, hct, hv, ha, hb, hc', mn, mx, l1a, l1b, l2]
              · by_cases l2 : 16777216 ≤ mu ∧ mu ≤ 4503599627370496
                · obtain ⟨l2a, l2b⟩ := l2
                  simp (maxSteps := 10000000) [Try.f7, mOfBS, hmu, hnu, hct, hv, ha, hb, hc', mn, mx, l1, l2a, l2b]
                · simp (maxSteps := 10000000) [Try.f7, mOfBS, hmu, hnu, hct, hv, mn, mx, l1, l2]
            · have okb : (v != 0) = true := by simpa using ok
              simp (maxSteps := 10000000) [Try.f7, mOfBS, hmu, hnu, hct, hv, ok, okb, mn, mx]
          · have mn : (if nu < mu then nu else mu) = mu := if_neg cm
            have mx : (if mu < nu then nu else mu) = nu := by split <;> omega
            obtain ⟨v, hv⟩ : ∃ v, ckI kd r x y z 0 (fun _ => 0) = v := ⟨_, rfl⟩
            by_cases ok : v = 0
            · subst ok
              have b0 := hfI_bd (c := 0) (by decide) hv
              have b1 := hfI_bd (c := 1) (by decide) hv
              have b2 := hfI_bd (c := 2) (by decide) hv
              obtain ⟨a, ha⟩ : ∃ a, hfI kd r x y z 0 (fun _ => 0) 0 = a := ⟨_, rfl⟩
              obtain ⟨b, hb⟩ : ∃ a, hfI kd r x y z 0 (fun _ => 0) 1 = a := ⟨_, rfl⟩
              obtain ⟨c, hc'⟩ : ∃ a, hfI kd r x y z 0 (fun _ => 0) 2 = a := ⟨_, rfl⟩
              by_cases l1 : 16777216 ≤ mu ∧ mu ≤ 4503599627370496
              · obtain ⟨l1a, l1b⟩ := l1
                by_cases l2 : 16777216 ≤ nu ∧ nu ≤ 4503599627370496
                · obtain ⟨l2a, l2b⟩ := l2
                  have g1 : 0 ≤ momI mu b c := momI_nn (by omega)
                  have g2 : 0 ≤ momI mu a c := momI_nn (by omega)
                  have g3 : 0 ≤ momI mu a b := momI_nn (by omega)
                  have s1 : momI mu b c ≤ clampI (clampI (momI mu a c + momI mu a b) + 1) := mom_side (by omega)
                  have s2 : momI mu a c ≤ clampI (clampI (momI mu b c + momI mu a b) + 1) := by
                    have := mom_side (m := mu) (a := b) (b := a) (c := c) (by omega)
                    rwa [momI_swap (a := b) (b := a)] at this
                  have s3 : momI mu a b ≤ clampI (clampI (momI mu b c + momI mu a c) + 1) := by
                    have := mom_side (m := mu) (a := c) (b := a) (c := b) (by omega)
                    rwa [momI_swap (a := c) (b := b), momI_swap (a := c) (b := a)] at this
                  have m1 : momI mu b c ≤ momI nu b c := momI_more (by omega)
                  have m2 : momI mu a c ≤ momI nu a c := momI_more (by omega)
                  have m3 : momI mu a b ≤ momI nu a b := momI_more (by omega)
                  have le : mu ≤ nu := by omega
                  simp (maxSteps := 10000000) [Try.f7, mOfBS, hmu, hnu, hct, hv, ha, hb, hc', mn, mx, l1a, l1b, l2a, l2b, momI_in, InI_clamp, (show InI 1 by decide), g1, g2, g3, s1, s2, s3, m1, m2, m3, le]
                · simp (maxSteps := 10000000) [Try.f7, mOfBS, hmu, hnu, hct, hv, ha, hb, hc', mn, mx, l1a, l1b, l2]
              · by_cases l2 : 16777216 ≤ nu ∧ nu ≤ 4503599627370496
                · obtain ⟨l2a, l2b⟩ := l2
                  simp (maxSteps := 10000000) [Try.f7, mOfBS, hmu, hnu, hct, hv, ha, hb, hc', mn, mx, l1, l2a, l2b]
                · simp (maxSteps := 10000000) [Try.f7, mOfBS, hmu, hnu, hct, hv, mn, mx, l1, l2]
            · have okb : (v != 0) = true := by simpa using ok
              simp (maxSteps := 10000000) [Try.f7, mOfBS, hmu, hnu, hct, hv, ok, okb, mn, mx]
        · refine ⟨_, _, _, .bool true, hlaid, rfl, rfl, rfl, ?_⟩
          by_cases hn : (100 : Int) < n
          · simp (maxSteps := 10000000) [Try.f7, hn]
          · have hct := eq_true (hlw.sh hn)
            by_cases cm : nu < mu
            · have mn : (if nu < mu then nu else mu) = nu := if_pos cm
              have mx : (if mu < nu then nu else mu) = mu := if_neg (by omega)
              obtain ⟨v, hv⟩ : ∃ v, ckI kd r x y z n f = v := ⟨_, rfl⟩
              by_cases ok : v = 0
              · subst ok
                have b0 := hfI_bd (c := 0) (by decide) hv
                have b1 := hfI_bd (c := 1) (by decide) hv
                have b2 := hfI_bd (c := 2) (by decide) hv
                obtain ⟨a, ha⟩ : ∃ a, hfI kd r x y z n f 0 = a := ⟨_, rfl⟩
                obtain ⟨b, hb⟩ : ∃ a, hfI kd r x y z n f 1 = a := ⟨_, rfl⟩
                obtain ⟨c, hc'⟩ : ∃ a, hfI kd r x y z n f 2 = a := ⟨_, rfl⟩
                by_cases l1 : 16777216 ≤ nu ∧ nu ≤ 4503599627370496
                · obtain ⟨l1a, l1b⟩ := l1
                  by_cases l2 : 16777216 ≤ mu ∧ mu ≤ 4503599627370496
                  · obtain ⟨l2a, l2b⟩ := l2
                    have g1 : 0 ≤ momI nu b c := momI_nn (by omega)
                    have g2 : 0 ≤ momI nu a c := momI_nn (by omega)
                    have g3 : 0 ≤ momI nu a b := momI_nn (by omega)
                    have s1 : momI nu b c ≤ clampI (clampI (momI nu a c + momI nu a b) + 1) := mom_side (by omega)
                    have s2 : momI nu a c ≤ clampI (clampI (momI nu b c + momI nu a b) + 1) := by
                      have := mom_side (m := nu) (a := b) (b := a) (c := c) (by omega)
                      rwa [momI_swap (a := b) (b := a)] at this
                    have s3 : momI nu a b ≤ clampI (clampI (momI nu b c + momI nu a c) + 1) := by
                      have := mom_side (m := nu) (a := c) (b := a) (c := b) (by omega)
                      rwa [momI_swap (a := c) (b := b), momI_swap (a := c) (b := a)] at this
                    have m1 : momI nu b c ≤ momI mu b c := momI_more (by omega)
                    have m2 : momI nu a c ≤ momI mu a c := momI_more (by omega)
                    have m3 : momI nu a b ≤ momI mu a b := momI_more (by omega)
                    have le : nu ≤ mu := by omega
                    simp (maxSteps := 10000000) [Try.f7, mOfBS, hmu, hnu, hE, hct, hv, ha, hb, hc', mn, mx, hn, l1a, l1b, l2a, l2b, momI_in, InI_clamp, (show InI 1 by decide), g1, g2, g3, s1, s2, s3, m1, m2, m3, le]
                  · simp (maxSteps := 10000000) [Try.f7, mOfBS, hmu, hnu, hE, hct, hv, ha, hb, hc', mn, mx, hn, l1a, l1b, l2]
                · by_cases l2 : 16777216 ≤ mu ∧ mu ≤ 4503599627370496
                  · obtain ⟨l2a, l2b⟩ := l2
                    simp (maxSteps := 10000000) [Try.f7, mOfBS, hmu, hnu, hE, hct, hv, ha, hb, hc', mn, mx, hn, l1, l2a, l2b]
                  · simp (maxSteps := 10000000) [Try.f7, mOfBS, hmu, hnu, hE, hct, hv, mn, mx, hn, l1, l2]
              · have okb : (v != 0) = true := by simpa using ok
                simp (maxSteps := 10000000) [Try.f7, mOfBS, hmu, hnu, hE, hct, hv, ok, okb, mn, mx, hn]
            · have mn : (if nu < mu then nu else mu) = mu := if_neg cm
              have mx : (if mu < nu then nu else mu) = nu := by split <;> omega
              obtain ⟨v, hv⟩ : ∃ v, ckI kd r x y z n f = v := ⟨_, rfl⟩
              by_cases ok : v = 0
              · subst ok
                have b0 := hfI_bd (c := 0) (by decide) hv
                have b1 := hfI_bd (c := 1) (by decide) hv
                have b2 := hfI_bd (c := 2) (by decide) hv
                obtain ⟨a, ha⟩ : ∃ a, hfI kd r x y z n f 0 = a := ⟨_, rfl⟩
                obtain ⟨b, hb⟩ : ∃ a, hfI kd r x y z n f 1 = a := ⟨_, rfl⟩
                obtain ⟨c, hc'⟩ : ∃ a, hfI kd r x y z n f 2 = a := ⟨_, rfl⟩
                by_cases l1 : 16777216 ≤ mu ∧ mu ≤ 4503599627370496
                · obtain ⟨l1a, l1b⟩ := l1
                  by_cases l2 : 16777216 ≤ nu ∧ nu ≤ 4503599627370496
                  · obtain ⟨l2a, l2b⟩ := l2
                    have g1 : 0 ≤ momI mu b c := momI_nn (by omega)
                    have g2 : 0 ≤ momI mu a c := momI_nn (by omega)
                    have g3 : 0 ≤ momI mu a b := momI_nn (by omega)
                    have s1 : momI mu b c ≤ clampI (clampI (momI mu a c + momI mu a b) + 1) := mom_side (by omega)
                    have s2 : momI mu a c ≤ clampI (clampI (momI mu b c + momI mu a b) + 1) := by
                      have := mom_side (m := mu) (a := b) (b := a) (c := c) (by omega)
                      rwa [momI_swap (a := b) (b := a)] at this
                    have s3 : momI mu a b ≤ clampI (clampI (momI mu b c + momI mu a c) + 1) := by
                      have := mom_side (m := mu) (a := c) (b := a) (c := b) (by omega)
                      rwa [momI_swap (a := c) (b := b), momI_swap (a := c) (b := a)] at this
                    have m1 : momI mu b c ≤ momI nu b c := momI_more (by omega)
                    have m2 : momI mu a c ≤ momI nu a c := momI_more (by omega)
                    have m3 : momI mu a b ≤ momI nu a b := momI_more (by omega)
                    have le : mu ≤ nu := by omega
                    simp (maxSteps := 10000000) [Try.f7, mOfBS, hmu, hnu, hE, hct, hv, ha, hb, hc', mn, mx, hn, l1a, l1b, l2a, l2b, momI_in, InI_clamp, (show InI 1 by decide), g1, g2, g3, s1, s2, s3, m1, m2, m3, le]
                  · simp (maxSteps := 10000000) [Try.f7, mOfBS, hmu, hnu, hE, hct, hv, ha, hb, hc', mn, mx, hn, l1a, l1b, l2]
                · by_cases l2 : 16777216 ≤ nu ∧ nu ≤ 4503599627370496
                  · obtain ⟨l2a, l2b⟩ := l2
                    simp (maxSteps := 10000000) [Try.f7, mOfBS, hmu, hnu, hE, hct, hv, ha, hb, hc', mn, mx, hn, l1, l2a, l2b]
                  · simp (maxSteps := 10000000) [Try.f7, mOfBS, hmu, hnu, hE, hct, hv, mn, mx, hn, l1, l2]
              · have okb : (v != 0) = true := by simpa using ok
                simp (maxSteps := 10000000) [Try.f7, mOfBS, hmu, hnu, hE, hct, hv, ok, okb, mn, mx, hn]
      · simp [*] at h
    · simp [*] at h
  · simp at h
end Go.X
