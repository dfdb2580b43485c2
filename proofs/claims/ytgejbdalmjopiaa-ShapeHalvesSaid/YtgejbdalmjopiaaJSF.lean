/- Halves and the reach of a shape: none above, none below, greater with the radius. -/
import Derived.Test.YtgejbdalmjopiaaJSE
namespace Go.X
open Go.Proofs
attribute [local irreducible] Good
noncomputable def lawHalves09S : Sum := fun args env _ => match args with
  | [.agg [.int .i64 kd, .int .i64 r, .int .i64 x, .int .i64 y, .int .i64 z, l], .int .i64 e] => match listE env l with
    | some (n, f) => open Classical in if LwP kd r x y z n f ∧ InI e then .val (.bool true) [] [] else .fail
    | none => .fail
  | _ => .fail
set_option maxHeartbeats 400000000 in
set_option maxRecDepth 100000 in
theorem lawHalves09_ok : SumOk Try.prog 5 lawHalves09S := by
  refine sum_read (L := fun _ => none) (n := 1) (S := stOf [(10, halfBS), (11, reachBS), (8, pureS awake09S)]) drawS Try.T_ok (stOf_ok (by simp [halfB_ok, reachB_ok, awake09_ok])) Try.func5 rfl (by kernel_rfl) (by kernel_rfl) ?_
  intro args env nxt h
  unfold lawHalves09S at h ⊢
  split at h
  · rename_i kd r x y z l e
    split at h
    · rename_i n f hl
      split at h
      · rename_i hc
        simp only [if_pos hc]
        obtain ⟨hlw, he⟩ := id hc
        rcases laid_shape (fun l => [.agg [.int .i64 kd, .int .i64 r, .int .i64 x, .int .i64 y, .int .i64 z, l], .int .i64 e]) hl (fun _ _ => rfl) (fun l => by simp) with ⟨rfl, rfl, rfl, hlaid⟩ | ⟨p, o1, c, items, ty, rfl, hlaid, hnc, hr', -, hE, hE2, hload⟩
        · refine ⟨_, _, _, .bool true, hlaid, rfl, rfl, rfl, ?_⟩
          have hct := eq_true (hlw.sh (by decide))
          by_cases d1 : e < 0
          · simp (maxSteps := 10000000) [Try.f5, d1]
          by_cases d2 : 274877906944 < e
          · simp (maxSteps := 10000000) [Try.f5, d1, d2]
          obtain ⟨v, hv⟩ : ∃ v, ckI kd r x y z 0 (fun _ => 0) = v := ⟨_, rfl⟩
          by_cases ok : v = 0
          · subst ok
            obtain ⟨r0, r1, hs, M1, M2, hsm⟩ := ck_ok hv
            have hm := ck_more (e := e) hv (by omega)
            have wr : IntKind.i64.wrap (r + e) = r + e := wrap_i64_in (by omega) (by omega)
            have ir : InI (r + e) := by unfold InI; omega
            obtain ⟨a1, a2, a3, a4, a5, a6, a7⟩ := hlw.sh (by decide)
            have hct2 : ShP kd (r + e) x y z 0 (fun _ => 0) = True := eq_true ⟨a1, ir, a3, a4, a5, a6, a7⟩
            have x0 := mxI_bd (F := coF kd x y z (fun _ => 0)) (c := 0) (by decide) hsm
            have y0 := mxI_bd (F := coF kd x y z (fun _ => 0)) (c := 1) (by decide) hsm
            have z0 := mxI_bd (F := coF kd x y z (fun _ => 0)) (c := 2) (by decide) hsm
            have x1 := mx_far (F := coF kd x y z (fun _ => 0)) (c := 0) (by decide) hsm
            have y1 := mx_far (F := coF kd x y z (fun _ => 0)) (c := 1) (by decide) hsm
            have z1 := mx_far (F := coF kd x y z (fun _ => 0)) (c := 2) (by decide) hsm
            have k0 := farI_bd (F := coF kd x y z (fun _ => 0)) hsm
            obtain ⟨X, hX⟩ : ∃ X, mxI (coF kd x y z (fun _ => 0)) 0 (coN kd 0) = X := ⟨_, rfl⟩
            obtain ⟨Y, hY⟩ : ∃ X, mxI (coF kd x y z (fun _ => 0)) 1 (coN kd 0) = X := ⟨_, rfl⟩
            obtain ⟨Z, hZ⟩ : ∃ X, mxI (coF kd x y z (fun _ => 0)) 2 (coN kd 0) = X := ⟨_, rfl⟩
            obtain ⟨K, hK⟩ : ∃ X, farI (coF kd x y z (fun _ => 0)) (coN kd 0) = X := ⟨_, rfl⟩
            rw [hX] at x0 x1
            rw [hY] at y0 y1
            rw [hZ] at z0 z1
            rw [hK] at x1 y1 z1 k0
            obtain ⟨HX, kx⟩ : ∃ a, X + r = a := ⟨_, rfl⟩
            obtain ⟨HY, ky⟩ : ∃ a, Y + r = a := ⟨_, rfl⟩
            obtain ⟨HZ, kz⟩ : ∃ a, Z + r = a := ⟨_, rfl⟩
            obtain ⟨HK, kk⟩ : ∃ a, K + r = a := ⟨_, rfl⟩
            have c1 : clampI HK = HK := clampI_self (by unfold InI; omega)
            by_cases le : r + e ≤ 274877906944
            · rw [if_pos le] at hm
              have c2 : clampI (K + (r + e)) = K + (r + e) := clampI_self (by unfold InI; omega)
              have ux : IntKind.i64.wrap (HX + e) = X + (r + e) := by rw [wrap_i64_in (by omega) (by omega)]; omega
              have uy : IntKind.i64.wrap (HY + e) = Y + (r + e) := by rw [wrap_i64_in (by omega) (by omega)]; omega
              have uz : IntKind.i64.wrap (HZ + e) = Z + (r + e) := by rw [wrap_i64_in (by omega) (by omega)]; omega
              have uk : IntKind.i64.wrap (HK + e) = K + (r + e) := by rw [wrap_i64_in (by omega) (by omega)]; omega
              have m3 : max3 HX HY HZ ≤ HK := by unfold max3; (repeat' split) <;> omega
              have n3 : r ≤ min3 HX HY HZ := by unfold min3; (repeat' split) <;> omega
              simp (maxSteps := 10000000) [Try.f5, halfBS, reachBS, d1, d2, hct, hv, hct2, hX, hY, hZ, hK, kx, ky, kz, kk, c1, wr, hm, c2, ux, uy, uz, uk, max3_is, min3_is, m3, n3]
            · rw [if_neg le] at hm
              have le2 : 274877906944 < r + e := by omega
              simp (maxSteps := 10000000) [Try.f5, halfBS, reachBS, d1, d2, hct, hv, hct2, hX, hY, hZ, hK, kx, ky, kz, kk, c1, wr, hm, le2]
          · have okb : (v != 0) = true := by simpa using ok
            simp (maxSteps := 10000000) [Try.f5, halfBS, reachBS, d1, d2, hct, hv, ok, okb]
        · refine ⟨_, _, _, .bool true, hlaid, rfl, rfl, rfl, ?_⟩
          by_cases hn : (100 : Int) < n
          · simp (maxSteps := 10000000) [Try.f5, hn]
          · have hct := eq_true (hlw.sh hn)
            by_cases d1 : e < 0
            · simp (maxSteps := 10000000) [Try.f5, d1, hn]
            by_cases d2 : 274877906944 < e
            · simp (maxSteps := 10000000) [Try.f5, d1, d2, hn]
            obtain ⟨v, hv⟩ : ∃ v, ckI kd r x y z n f = v := ⟨_, rfl⟩
            by_cases ok : v = 0
            · subst ok
              obtain ⟨r0, r1, hs, M1, M2, hsm⟩ := ck_ok hv
              have hm := ck_more (e := e) hv (by omega)
              have wr : IntKind.i64.wrap (r + e) = r + e := wrap_i64_in (by omega) (by omega)
              have ir : InI (r + e) := by unfold InI; omega
              obtain ⟨a1, a2, a3, a4, a5, a6, a7⟩ := hlw.sh hn
              have hct2 : ShP kd (r + e) x y z n f = True := eq_true ⟨a1, ir, a3, a4, a5, a6, a7⟩
              have x0 := mxI_bd (F := coF kd x y z f) (c := 0) (by decide) hsm
              have y0 := mxI_bd (F := coF kd x y z f) (c := 1) (by decide) hsm
              have z0 := mxI_bd (F := coF kd x y z f) (c := 2) (by decide) hsm
              have x1 := mx_far (F := coF kd x y z f) (c := 0) (by decide) hsm
              have y1 := mx_far (F := coF kd x y z f) (c := 1) (by decide) hsm
              have z1 := mx_far (F := coF kd x y z f) (c := 2) (by decide) hsm
              have k0 := farI_bd (F := coF kd x y z f) hsm
              obtain ⟨X, hX⟩ : ∃ X, mxI (coF kd x y z f) 0 (coN kd n) = X := ⟨_, rfl⟩
              obtain ⟨Y, hY⟩ : ∃ X, mxI (coF kd x y z f) 1 (coN kd n) = X := ⟨_, rfl⟩
              obtain ⟨Z, hZ⟩ : ∃ X, mxI (coF kd x y z f) 2 (coN kd n) = X := ⟨_, rfl⟩
              obtain ⟨K, hK⟩ : ∃ X, farI (coF kd x y z f) (coN kd n) = X := ⟨_, rfl⟩
              rw [hX] at x0 x1
              rw [hY] at y0 y1
              rw [hZ] at z0 z1
              rw [hK] at x1 y1 z1 k0
              obtain ⟨HX, kx⟩ : ∃ a, X + r = a := ⟨_, rfl⟩
              obtain ⟨HY, ky⟩ : ∃ a, Y + r = a := ⟨_, rfl⟩
              obtain ⟨HZ, kz⟩ : ∃ a, Z + r = a := ⟨_, rfl⟩
              obtain ⟨HK, kk⟩ : ∃ a, K + r = a := ⟨_, rfl⟩
              have c1 : clampI HK = HK := clampI_self (by unfold InI; omega)
              by_cases le : r + e ≤ 274877906944
              · rw [if_pos le] at hm
                have c2 : clampI (K + (r + e)) = K + (r + e) := clampI_self (by unfold InI; omega)
                have ux : IntKind.i64.wrap (HX + e) = X + (r + e) := by rw [wrap_i64_in (by omega) (by omega)]; omega
                have uy : IntKind.i64.wrap (HY + e) = Y + (r + e) := by rw [wrap_i64_in (by omega) (by omega)]; omega
                have uz : IntKind.i64.wrap (HZ + e) = Z + (r + e) := by rw [wrap_i64_in (by omega) (by omega)]; omega
                have uk : IntKind.i64.wrap (HK + e) = K + (r + e) := by rw [wrap_i64_in (by omega) (by omega)]; omega
                have m3 : max3 HX HY HZ ≤ HK := by unfold max3; (repeat' split) <;> omega
                have n3 : r ≤ min3 HX HY HZ := by unfold min3; (repeat' split) <;> omega
                simp (maxSteps := 10000000) [Try.f5, halfBS, reachBS, hE, d1, d2, hct, hv, hct2, hX, hY, hZ, hK, kx, ky, kz, kk, c1, wr, hm, hn, c2, ux, uy, uz, uk, max3_is, min3_is, m3, n3]
              · rw [if_neg le] at hm
                have le2 : 274877906944 < r + e := by omega
                simp (maxSteps := 10000000) [Try.f5, halfBS, reachBS, hE, d1, d2, hct, hv, hct2, hX, hY, hZ, hK, kx, ky, kz, kk, c1, wr, hm, hn, le2]
            · have okb : (v != 0) = true := by simpa using ok
              simp (maxSteps := 10000000) [Try.f5, halfBS, reachBS, hE, d1, d2, hct, hv, ok, okb, hn]
      · simp [*] at h
    · simp [*] at h
  · simp at h
end Go.X
