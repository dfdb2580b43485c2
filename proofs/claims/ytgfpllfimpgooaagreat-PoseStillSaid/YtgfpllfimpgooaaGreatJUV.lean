/- In a pose that is not turned points are moved by its place alone. -/
import Derived.Test.YtgfpllfimpgooaaGreatJUT
import Derived.Test.YtgfpllfimpgooaaGreatJUO
namespace Go.X
open Go.Proofs
attribute [local irreducible] Good

theorem load_PB2 {m : List Blk} {p N k : Nat} {F : Nat → Int} (hp : m[p]? = some (PB N k F)) {i : Nat} (hi : i < N) : (p < m.length ∧ ∀ h : p < m.length, m[p]'h = PB N k F) ∧ ∀ fs z q, loadB ⟨.struct fs, 3, z, q⟩ (PB N k F) (i * 3) = some (.agg [.int .i64 (F (i * 3)), .int .i64 (F (i * 3 + 1)), .int .i64 (F (i * 3 + 2))]) := by
  refine ⟨⟨(List.getElem?_eq_some_iff.1 hp).1, fun h => (List.getElem?_eq_some_iff.1 hp).2⟩, fun fs z q => ?_⟩
  exact loadB_VB (n := N) (c := k) (by omega) (Nat.le_refl _)
theorem one_turn : TurnP 4294967296 0 0 0 := by decide
theorem one_e00 : clampI (quoI (r00 4294967296 0 0 0 * 4294967296) (sq4 4294967296 0 0 0)) = 4294967296 := by decide +kernel
theorem one_e01 : clampI (quoI (r01 4294967296 0 0 0 * 4294967296) (sq4 4294967296 0 0 0)) = 0 := by decide +kernel
theorem one_e02 : clampI (quoI (r02 4294967296 0 0 0 * 4294967296) (sq4 4294967296 0 0 0)) = 0 := by decide +kernel
theorem one_e10 : clampI (quoI (r10 4294967296 0 0 0 * 4294967296) (sq4 4294967296 0 0 0)) = 0 := by decide +kernel
theorem one_e11 : clampI (quoI (r11 4294967296 0 0 0 * 4294967296) (sq4 4294967296 0 0 0)) = 4294967296 := by decide +kernel
theorem one_e12 : clampI (quoI (r12 4294967296 0 0 0 * 4294967296) (sq4 4294967296 0 0 0)) = 0 := by decide +kernel
theorem one_e20 : clampI (quoI (r20 4294967296 0 0 0 * 4294967296) (sq4 4294967296 0 0 0)) = 0 := by decide +kernel
theorem one_e21 : clampI (quoI (r21 4294967296 0 0 0 * 4294967296) (sq4 4294967296 0 0 0)) = 0 := by decide +kernel
theorem one_e22 : clampI (quoI (r22 4294967296 0 0 0 * 4294967296) (sq4 4294967296 0 0 0)) = 4294967296 := by decide +kernel
theorem pOut_one {p1 p2 p3 x y z : Int} (h : InI p1 ∧ InI p2 ∧ InI p3 ∧ InI x ∧ InI y ∧ InI z) : pOutS [.agg [.int .i64 p1, .int .i64 p2, .int .i64 p3, .int .i64 4294967296, .int .i64 0, .int .i64 0, .int .i64 0], .agg [.int .i64 x, .int .i64 y, .int .i64 z]] = .val (if Place p1 p2 p3 then .tup [.agg [.int .i64 (clampI (x + p1)), .int .i64 (clampI (y + p2)), .int .i64 (clampI (z + p3))], .int .i64 0] else .tup [.agg [.int .i64 0, .int .i64 0, .int .i64 0], .int .i64 7]) := by
  obtain ⟨h1, h2, h3, h4, h5, h6⟩ := h
  rw [pOutS_val ⟨h1, h2, h3, by decide, by decide, by decide, by decide, h4, h5, h6⟩]
  by_cases p : Place p1 p2 p3
  · rw [if_pos ⟨p, one_turn⟩, if_pos p, one_e00, one_e01, one_e02, one_e10, one_e11, one_e12, one_e20, one_e21, one_e22]
    rw [show (p1 * 4294967296 + 4294967296 * x + 0 * y + 0 * z) / 4294967296 = x + p1 by omega, show (p2 * 4294967296 + 0 * x + 4294967296 * y + 0 * z) / 4294967296 = y + p2 by omega, show (p3 * 4294967296 + 0 * x + 0 * y + 4294967296 * z) / 4294967296 = z + p3 by omega]
  · rw [if_neg fun k => p k.1, if_neg p, if_neg p]
theorem pIn_one {p1 p2 p3 x y z : Int} (h : InI p1 ∧ InI p2 ∧ InI p3 ∧ InI x ∧ InI y ∧ InI z) : pInS [.agg [.int .i64 p1, .int .i64 p2, .int .i64 p3, .int .i64 4294967296, .int .i64 0, .int .i64 0, .int .i64 0], .agg [.int .i64 x, .int .i64 y, .int .i64 z]] = .val (if Place p1 p2 p3 then .tup [.agg [.int .i64 (clampI (x - p1)), .int .i64 (clampI (y - p2)), .int .i64 (clampI (z - p3))], .int .i64 0] else .tup [.agg [.int .i64 0, .int .i64 0, .int .i64 0], .int .i64 7]) := by
  obtain ⟨h1, h2, h3, h4, h5, h6⟩ := h
  rw [pInS_val ⟨h1, h2, h3, by decide, by decide, by decide, by decide, h4, h5, h6⟩]
  by_cases p : Place p1 p2 p3
  · rw [if_pos ⟨p, one_turn⟩, if_pos p, one_e00, one_e01, one_e02, one_e10, one_e11, one_e12, one_e20, one_e21, one_e22]
    rw [show (4294967296 * (x - p1) + 0 * (y - p2) + 0 * (z - p3)) / 4294967296 = x - p1 by omega, show (0 * (x - p1) + 4294967296 * (y - p2) + 0 * (z - p3)) / 4294967296 = y - p2 by omega, show (0 * (x - p1) + 0 * (y - p2) + 4294967296 * (z - p3)) / 4294967296 = z - p3 by omega]
  · rw [if_neg fun k => p k.1, if_neg p, if_neg p]
theorem ou_one {x y z : Int} (hx : SmN x) (hy : SmN y) (hz : SmN z) : ouI 0 4294967296 0 0 x y z = x ∧ ouI 0 0 4294967296 0 x y z = y ∧ ouI 0 0 0 4294967296 x y z = z := by
  unfold ouI
  unfold SmN at *
  rw [show (0 * 4294967296 + 4294967296 * x + 0 * y + 0 * z) / 4294967296 = x by omega, show (0 * 4294967296 + 0 * x + 4294967296 * y + 0 * z) / 4294967296 = y by omega, show (0 * 4294967296 + 0 * x + 0 * y + 4294967296 * z) / 4294967296 = z by omega]
  exact ⟨clampI_self (by unfold InI; omega), clampI_self (by unfold InI; omega), clampI_self (by unfold InI; omega)⟩
theorem pt_one {F : Nat → Int} {n : Nat} (hF : ∀ j, j < n * 3 → SmN (F j)) (j : Nat) (hj : j < n * 3) : ptO 0 0 0 4294967296 0 0 0 4294967296 0 0 0 4294967296 F j = nearI (F j) := by
  obtain ⟨k1, k2, k3⟩ := ou_one (hF (j / 3 * 3) (by omega)) (hF (j / 3 * 3 + 1) (by omega)) (hF (j / 3 * 3 + 2) (by omega))
  unfold ptO
  rw [k1, k2, k3]
  split
  · rw [show j / 3 * 3 = j by omega]
  · split
    · rw [show j / 3 * 3 + 1 = j by omega]
    · rw [show j / 3 * 3 + 2 = j by omega]
noncomputable def stlST : List (FuncId × Sum) := [(16, pureS qOneS), (17, pureS pOutS), (18, pureS pInS), (19, pureS vAddS), (20, pureS vSubS), (21, ptsBS), (22, coreBS), (23, pureS gRoundWS), (15, pureS awake11S)]
def stlL (i : Nat) : Option DM := if i = 3 then some (.quiet 4) else if i = 8 then some (.orders [[0, 1, 2, 3, 4, 5, 6, 7, 8], [0, 1, 2, 3, 4, 6, 5, 7, 8], [0, 1, 2, 3, 4, 5, 7, 6, 8], [0, 2, 1, 3, 4, 5, 6, 7, 8], [0, 2, 1, 3, 4, 6, 5, 7, 8], [0, 2, 1, 3, 4, 5, 7, 6, 8], [2, 0, 1, 3, 4, 5, 6, 7, 8], [2, 0, 1, 3, 4, 6, 5, 7, 8], [2, 0, 1, 3, 4, 5, 7, 6, 8]]) else none
noncomputable def stlLoop : Code := match Tryz.f3.body with | some (.seq _ (.seq _ (.seq _ (.seq _ (.seq _ (.seq _ (.seq _ (.seq _ (.seq _ (.seq (.seq _ (.block _ (.loop c))) _)))))))))) => c | _ => .skip
noncomputable def stlP (p N k p' k' : Nat) (i : Option AV) : List (Option AV) := [none, none, none, none, none, none, none, none, none, none, none, none, some (.slice p 0 N (N + k)), none, some (.slice p' 0 N (N + k')), none, i, none, none, none, none, none, none, none, none, none, none, none, none, none, none, none, none, none, none, none, none, none, none, none, none, none, none, none, none, none, none, none, none, none, none, none, none, none, none, none, none, none, none, none, none, none, none, none, none, none, none, none, none, none, none, none, none, none, none, none, none, none, none, none, none, none, none, none, none, none, none, none, none, none, none, none, none, none, none, none, none, none, none, none, none, none, none, none, none, none, none, none, none, none, none, none, none, none, none, none, none, none, none, none, none, none, none, none, none, none, none]
set_option maxHeartbeats 40000000 in
set_option maxRecDepth 100000 in
theorem stl_loop {p N k p' k' : Nat} {F G : Nat → Int} {mi : List Blk} (hN : N ≤ 100) (hF : ∀ j, j < N * 3 → SmN (F j)) (hG : ∀ j, j < N * 3 → G j = nearI (F j)) {Q : Ex → St → Prop}
    (hQ : ∀ (ts : List AV) (x : List Blk), Fits (stlP p N k p' k' none) ts → Q (.exit 0) ⟨ts, mi ++ x, []⟩)
    {ts : List AV} (hp : mi[p]? = some (PB N k G)) (hp' : mi[p']? = some (VB N k' F)) (h0 : Fits (stlP p N k p' k' (some (.int .i64 0))) ts) :
    Good (loopA (exec Tryz.T (stOf stlST) (stlL) 150 stlLoop) 150 ⟨ts, mi, []⟩) Q := by
  refine loop_rule (fun x s => ∃ (i : Nat) (y : List Blk), i + x = N ∧ Fits (stlP p N k p' k' (some (.int .i64 i))) s.ts ∧ s.m = mi ++ y ∧ s.df = []) ?_ 150 N _ (by omega)
    ⟨0, [], by omega, h0, by simp, rfl⟩
  rintro x ⟨ts, m, df⟩ ⟨i, y, hix, hfit, hm, hd⟩
  simp only at hfit hm hd
  subst hd
  obtain ⟨g, rfl⟩ := fits_of hfit 0
  by_cases hi : i < N
  · have hi1 : (i : Int) < N := by omega
    have w1 : IntKind.i64.wrap ((i : Int) + 1) = i + 1 := wrap_i64_in (by omega) (by omega)
    have hpl : p < mi.length := (List.getElem?_eq_some_iff.1 hp).1
    have hpl' : p' < mi.length := (List.getElem?_eq_some_iff.1 hp').1
    have hmp : m[p]? = some (PB N k G) := by rw [hm, List.getElem?_append_left hpl]; exact hp
    have hmp' : m[p']? = some (VB N k' F) := by rw [hm, List.getElem?_append_left hpl']; exact hp'
    obtain ⟨⟨lp, Np⟩, l0⟩ := load_PB2 hmp hi
    obtain ⟨⟨lp', Np'⟩, l0'⟩ := load_VB hmp' hi
    have Lp : ∀ x, (m ++ x)[p]? = some (PB N k G) := fun x => by rw [List.getElem?_append_left lp]; exact hmp
    have Lp' : ∀ x, (m ++ x)[p']? = some (VB N k' F) := fun x => by rw [List.getElem?_append_left lp']; exact hmp'
    have s0 : SmN (F (i * 3)) := hF _ (by omega)
    have s1 : SmN (F (i * 3 + 1)) := hF _ (by omega)
    have s2 : SmN (F (i * 3 + 2)) := hF _ (by omega)
    have v0 := sm_in s0
    have v1 := sm_in s1
    have v2 := sm_in s2
    have lg : ∀ {a : Int}, SmN a → LgN a := fun {a} h => by unfold SmN at h; unfold LgN; omega
    have o0 := lg s0
    have o1 := lg s1
    have o2 := lg s2
    have g0 := hG (i * 3) (by omega)
    have g1 := hG (i * 3 + 1) (by omega)
    have g2 := hG (i * 3 + 2) (by omega)
    have lp1 : p < m.length + 1 := by omega
    have lp1' : p' < m.length + 1 := by omega
    have e9 : ∀ z : List Blk, ∃ y', m ++ z = mi ++ y' := fun z => ⟨y ++ z, by rw [hm, List.append_assoc]⟩
    simp (maxSteps := 10000000) [stlLoop, stlP, stlST, stlL, lp1, Tryz.f3, hi1, w1, lp, Np, lp', Np', ↓l0, ↓l0', modify_end, v0, v1, v2, o0, o1, o2, g0, g1, g2, e9]
    refine ⟨x - 1, by omega, i + 1, by omega, by omega⟩
  · have : i = N := by omega
    subst this
    subst hm
    simp [stlLoop, stlP, Tryz.f3]
    exact hQ _ _ (by simp [stlP])
noncomputable def lawStl11S : Sum := fun args env _ => match args with
  | [.agg [.int .i64 p1, .int .i64 p2, .int .i64 p3], .agg [.int .i64 vx, .int .i64 vy, .int .i64 vz], .agg [.int .i64 kd, .int .i64 r, .int .i64 x, .int .i64 y, .int .i64 z, l]] => match listE env l with
    | some (n, f) => open Classical in if LwP kd r x y z n f ∧ InI p1 ∧ InI p2 ∧ InI p3 ∧ InI vx ∧ InI vy ∧ InI vz then .val (.bool true) [] [] else .fail
    | none => .fail
  | _ => .fail
set_option maxHeartbeats 400000000 in
set_option maxRecDepth 100000 in
theorem lawStl11_ok : SumOk Tryz.prog 3 lawStl11S := by
  refine sum_read (L := stlL) (n := 150) (S := stOf stlST) drawS Tryz.T_ok (stOf_ok (by simp [stlST, qOne_ok, pOut_ok, pIn_ok, vAdd_ok, vSub_ok, pts_ok, coreB_ok, gRoundW_ok, awake11_ok])) Tryz.func3 rfl (by kernel_rfl) (by kernel_rfl) ?_
  intro args env nxt h
  unfold lawStl11S at h ⊢
  split at h
  · rename_i p1 p2 p3 vx vy vz kd r x y z l
    split at h
    · rename_i n f hl
      split at h
      · rename_i hc
        simp only [if_pos hc]
        obtain ⟨hlw, i1, i2, i3, i4, i5, i6⟩ := id hc
        rcases laid_shape (fun l => [.agg [.int .i64 p1, .int .i64 p2, .int .i64 p3], .agg [.int .i64 vx, .int .i64 vy, .int .i64 vz], .agg [.int .i64 kd, .int .i64 r, .int .i64 x, .int .i64 y, .int .i64 z, l]]) hl (fun _ _ => rfl) (fun l => by simp) with ⟨rfl, rfl, rfl, hlaid⟩ | ⟨p, o1, c, items, ty, rfl, hlaid, hnc, hr', -, hE, hE2, hload⟩
        · refine ⟨_, _, _, .bool true, hlaid, rfl, rfl, rfl, ?_⟩
          have hct := eq_true (hlw.sh (by decide))
          have iz0 : InI 0 = True := eq_true (by decide)
          have iz1 : InI 4294967296 = True := eq_true (by decide)
          have pl0 : Place 0 0 0 = True := eq_true (by decide)
          by_cases c1 : 4611686018427387904 < max3 vx vy vz
          · simp (maxSteps := 10000000) [Tryz.f3, stlST, max3_is, c1]
          by_cases c2 : min3 vx vy vz < -4611686018427387904
          · simp (maxSteps := 10000000) [Tryz.f3, stlST, max3_is, min3_is, c1, c2]
          have ho := pOut_one (p1 := p1) (p2 := p2) (p3 := p3) (x := vx) (y := vy) (z := vz) ⟨i1, i2, i3, i4, i5, i6⟩
          have hi := pIn_one (p1 := p1) (p2 := p2) (p3 := p3) (x := vx) (y := vy) (z := vz) ⟨i1, i2, i3, i4, i5, i6⟩
          by_cases pl : Place p1 p2 p3
          · rw [if_pos pl] at ho hi
            by_cases ok : ckI kd r x y z 0 (fun _ => 0) = 0
            · obtain ⟨r0, r1, hs, M1, M2, hsm⟩ := ck_ok ok
              simp (maxSteps := 10000000) [-loopA_succ, -pOutS_val, -pInS_val, Tryz.f3, stlST, stlL, iz0, iz1, ptsBS, coreBS, max3_is, min3_is, c1, c2, hct, ho, hi, ok, i1, i2, i3, i4, i5, i6, one_turn, pl0, one_e00, one_e01, one_e02, one_e10, one_e11, one_e12, one_e20, one_e21, one_e22]
              intro k k'
              simp only [good_bind, good_unblock]
              refine stl_loop (p := 6) (p' := 7) (N := coN kd 0) (k := k) (k' := k') (F := coF kd x y z (fun _ => 0)) (by omega) hsm (pt_one hsm) (fun ts m hfit => ?_) ?_ ?_ ?_
              · obtain ⟨g, rfl⟩ := fits_of hfit 0
                simp (maxSteps := 10000000) [stlP, -pOutS_val, -pInS_val]
              · rfl
              · rfl
              · simp [stlP]
            · simp (maxSteps := 10000000) [-pOutS_val, -pInS_val, Tryz.f3, stlST, stlL, iz0, iz1, ptsBS, coreBS, max3_is, min3_is, c1, c2, hct, ho, hi, ok, i1, i2, i3, i4, i5, i6, one_turn, pl0]
          · rw [if_neg pl] at ho hi
            by_cases ok : ckI kd r x y z 0 (fun _ => 0) = 0
            · obtain ⟨r0, r1, hs, M1, M2, hsm⟩ := ck_ok ok
              simp (maxSteps := 10000000) [-loopA_succ, -pOutS_val, -pInS_val, Tryz.f3, stlST, stlL, iz0, iz1, ptsBS, coreBS, max3_is, min3_is, c1, c2, hct, ho, hi, ok, one_turn, pl0, one_e00, one_e01, one_e02, one_e10, one_e11, one_e12, one_e20, one_e21, one_e22]
              intro k k'
              simp only [good_bind, good_unblock]
              refine stl_loop (p := 6) (p' := 7) (N := coN kd 0) (k := k) (k' := k') (F := coF kd x y z (fun _ => 0)) (by omega) hsm (pt_one hsm) (fun ts m hfit => ?_) ?_ ?_ ?_
              · obtain ⟨g, rfl⟩ := fits_of hfit 0
                simp (maxSteps := 10000000) [stlP, -pOutS_val, -pInS_val]
              · rfl
              · rfl
              · simp [stlP]
            · simp (maxSteps := 10000000) [-pOutS_val, -pInS_val, Tryz.f3, stlST, stlL, iz0, iz1, ptsBS, coreBS, max3_is, min3_is, c1, c2, hct, ho, hi, ok, one_turn, pl0]
        · refine ⟨_, _, _, .bool true, hlaid, rfl, rfl, rfl, ?_⟩
          by_cases hn : (100 : Int) < n
          · simp (maxSteps := 10000000) [Tryz.f3, stlST, hn]
          · have hct := eq_true (hlw.sh hn)
            have iz0 : InI 0 = True := eq_true (by decide)
            have iz1 : InI 4294967296 = True := eq_true (by decide)
            have pl0 : Place 0 0 0 = True := eq_true (by decide)
            by_cases c1 : 4611686018427387904 < max3 vx vy vz
            · simp (maxSteps := 10000000) [Tryz.f3, stlST, max3_is, c1, hn]
            by_cases c2 : min3 vx vy vz < -4611686018427387904
            · simp (maxSteps := 10000000) [Tryz.f3, stlST, max3_is, min3_is, c1, c2, hn]
            have ho := pOut_one (p1 := p1) (p2 := p2) (p3 := p3) (x := vx) (y := vy) (z := vz) ⟨i1, i2, i3, i4, i5, i6⟩
            have hi := pIn_one (p1 := p1) (p2 := p2) (p3 := p3) (x := vx) (y := vy) (z := vz) ⟨i1, i2, i3, i4, i5, i6⟩
            by_cases pl : Place p1 p2 p3
            · rw [if_pos pl] at ho hi
              by_cases ok : ckI kd r x y z n f = 0
              · obtain ⟨r0, r1, hs, M1, M2, hsm⟩ := ck_ok ok
                simp (maxSteps := 10000000) [-loopA_succ, -pOutS_val, -pInS_val, Tryz.f3, stlST, stlL, iz0, iz1, ptsBS, coreBS, max3_is, min3_is, c1, c2, hct, ho, hi, ok, i1, i2, i3, i4, i5, i6, one_turn, pl0, one_e00, one_e01, one_e02, one_e10, one_e11, one_e12, one_e20, one_e21, one_e22, hE, hn]
                intro k k'
                simp only [good_bind, good_unblock]
                refine stl_loop (p := 7) (p' := 8) (N := coN kd n) (k := k) (k' := k') (F := coF kd x y z f) (by omega) hsm (pt_one hsm) (fun ts m hfit => ?_) ?_ ?_ ?_
                · obtain ⟨g, rfl⟩ := fits_of hfit 0
                  simp (maxSteps := 10000000) [stlP, -pOutS_val, -pInS_val]
                · rfl
                · rfl
                · simp [stlP]
              · simp (maxSteps := 10000000) [-pOutS_val, -pInS_val, Tryz.f3, stlST, stlL, iz0, iz1, ptsBS, coreBS, max3_is, min3_is, c1, c2, hct, ho, hi, ok, i1, i2, i3, i4, i5, i6, one_turn, pl0, hE, hn]
            · rw [if_neg pl] at ho hi
              by_cases ok : ckI kd r x y z n f = 0
              · obtain ⟨r0, r1, hs, M1, M2, hsm⟩ := ck_ok ok
                simp (maxSteps := 10000000) [-loopA_succ, -pOutS_val, -pInS_val, Tryz.f3, stlST, stlL, iz0, iz1, ptsBS, coreBS, max3_is, min3_is, c1, c2, hct, ho, hi, ok, one_turn, pl0, one_e00, one_e01, one_e02, one_e10, one_e11, one_e12, one_e20, one_e21, one_e22, hE, hn]
                intro k k'
                simp only [good_bind, good_unblock]
                refine stl_loop (p := 7) (p' := 8) (N := coN kd n) (k := k) (k' := k') (F := coF kd x y z f) (by omega) hsm (pt_one hsm) (fun ts m hfit => ?_) ?_ ?_ ?_
                · obtain ⟨g, rfl⟩ := fits_of hfit 0
                  simp (maxSteps := 10000000) [stlP, -pOutS_val, -pInS_val]
                · rfl
                · rfl
                · simp [stlP]
              · simp (maxSteps := 10000000) [-pOutS_val, -pInS_val, Tryz.f3, stlST, stlL, iz0, iz1, ptsBS, coreBS, max3_is, min3_is, c1, c2, hct, ho, hi, ok, one_turn, pl0, hE, hn]
      · simp [*] at h
    · simp [*] at h
  · simp at h
end Go.X
