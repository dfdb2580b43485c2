/- Behind a move a pose may be, and so may all points of a shape in it. -/
import Derived.Test.YtgfpllfimpgooaaGreatJUR
namespace Go.X
open Go.Proofs
attribute [local irreducible] Good

theorem load_PB {m : List Blk} {p N k : Nat} {F : Nat → Int} (hp : m[p]? = some (PB N k F)) {i : Nat} (hi : i < N) : (p < m.length ∧ ∀ h : p < m.length, m[p]'h = PB N k F) ∧ ∀ fs z q, loadB ⟨.struct fs, 3, z, q⟩ (PB N k F) (i * 3) = some (.agg [.int .i64 (F (i * 3)), .int .i64 (F (i * 3 + 1)), .int .i64 (F (i * 3 + 2))]) := by
  refine ⟨⟨(List.getElem?_eq_some_iff.1 hp).1, fun h => (List.getElem?_eq_some_iff.1 hp).2⟩, fun fs z q => ?_⟩
  exact loadB_VB (n := N) (c := k) (by omega) (Nat.le_refl _)
theorem far_in {a : Int} (h : Far1 a) : InI a := by unfold Far1 at h; unfold InI; omega
theorem far_max {a b c : Int} (h1 : Far1 a) (h2 : Far1 b) (h3 : Far1 c) : (75497472 < max3 a b c) = False ∧ (min3 a b c < -75497472) = False ∧ Pt3 a b c := by
  unfold Far1 at *
  refine ⟨?_, ?_, ?_⟩
  · unfold max3; simp only [eq_iff_iff, iff_false]; (repeat' split) <;> omega
  · unfold min3; simp only [eq_iff_iff, iff_false]; (repeat' split) <;> omega
  · unfold Pt3 PtN; omega
noncomputable def behST : List (FuncId × Sum) := [(41, pureS pMoveS), (21, ptsBS), (57, pureS gCheckS), (58, pureS pCheckS), (34, checkBS), (15, pureS awake11S)]
noncomputable def behLoop : Code := match Tryz.f14.body with | some (.seq _ (.seq _ (.seq _ (.seq _ (.seq _ (.seq (.seq _ (.block _ (.loop c))) _)))))) => c | _ => .skip
noncomputable def behP (b4 b0 p N k : Nat) (i : Option AV) : List (Option AV) := [none, none, none, none, none, none, none, none, none, some (.ptr b0 0), none, some (.ptr b4 0), none, none, some (.slice p 0 N (N + k)), some (.int .i64 0), i, none, none, none, none, none, none, none, none, none, none, none, none, none, none, none, none, none, none, none, none, none, none, none, none, none, none, none, none, none, none, none, none, none, none, none, none, none, none, none, none, none, none, none, none, none, none, none, none, none, none, none, none, none, none, none, none, none, none, none, none, none, none, none, none, none, none, none, none, none, none, none, none, none, none, none, none]
set_option maxHeartbeats 40000000 in
set_option maxRecDepth 100000 in
theorem beh_loop {b4 b0 p N k : Nat} {F : Nat → Int} {mi : List Blk} (hN : N ≤ 100) (hF : ∀ j, j < N * 3 → Far1 (F j)) {Q : Ex → St → Prop}
    (hQ : ∀ (ts : List AV) (x : List Blk), Fits (behP b4 b0 p N k none) ts → Q (.exit 0) ⟨ts, mi ++ x, []⟩)
    {ts : List AV} (hp : mi[p]? = some (PB N k F)) (h0 : Fits (behP b4 b0 p N k (some (.int .i64 0))) ts) :
    Good (loopA (exec Tryz.T (stOf behST) (fun _ => none) 150 behLoop) 150 ⟨ts, mi, []⟩) Q := by
  refine loop_rule (fun x s => ∃ (i : Nat) (y : List Blk), i + x = N ∧ Fits (behP b4 b0 p N k (some (.int .i64 i))) s.ts ∧ s.m = mi ++ y ∧ s.df = []) ?_ 150 N _ (by omega)
    ⟨0, [], by omega, h0, by simp, rfl⟩
  rintro x ⟨ts, m, df⟩ ⟨i, y, hix, hfit, hm, hd⟩
  simp only at hfit hm hd
  subst hd
  obtain ⟨g, rfl⟩ := fits_of hfit 0
  by_cases hi : i < N
  · have hi1 : (i : Int) < N := by omega
    have w1 : IntKind.i64.wrap ((i : Int) + 1) = i + 1 := wrap_i64_in (by omega) (by omega)
    have hpl : p < mi.length := (List.getElem?_eq_some_iff.1 hp).1
    have hmp : m[p]? = some (PB N k F) := by rw [hm, List.getElem?_append_left hpl]; exact hp
    obtain ⟨⟨lp, Np⟩, l0⟩ := load_PB hmp hi
    have Lp : ∀ x, (m ++ x)[p]? = some (PB N k F) := fun x => by rw [List.getElem?_append_left lp]; exact hmp
    have f0 := hF (i * 3) (by omega)
    have f1 := hF (i * 3 + 1) (by omega)
    have f2 := hF (i * 3 + 2) (by omega)
    have v0 := far_in f0
    have v1 := far_in f1
    have v2 := far_in f2
    obtain ⟨k1, k2, k3⟩ := far_max f0 f1 f2
    have e9 : ∀ z : List Blk, ∃ y', m ++ z = mi ++ y' := fun z => ⟨y ++ z, by rw [hm, List.append_assoc]⟩
    simp (maxSteps := 10000000) [behLoop, behP, behST, Tryz.f14, hi1, w1, lp, Np, ↓l0, modify_end, v0, v1, v2, max3_is, min3_is, k1, k2, k3, e9]
    refine ⟨x - 1, by omega, i + 1, by omega, by omega⟩
  · have : i = N := by omega
    subst this
    subst hm
    simp [behLoop, behP, Tryz.f14]
    exact hQ _ _ (by simp [behP])
noncomputable def lawBeh11S : Sum := fun args env _ => match args with
  | [.agg [.int .i64 p1, .int .i64 p2, .int .i64 p3, .int .i64 q0, .int .i64 q1, .int .i64 q2, .int .i64 q3], .agg [.int .i64 vx, .int .i64 vy, .int .i64 vz], .agg [.int .i64 u, .int .i64 v, .int .i64 w], .int .i64 t, .agg [.int .i64 kd, .int .i64 r, .int .i64 x, .int .i64 y, .int .i64 z, l]] => match listE env l with
    | some (n, f) => open Classical in if LwP kd r x y z n f ∧ InI p1 ∧ InI p2 ∧ InI p3 ∧ InI q0 ∧ InI q1 ∧ InI q2 ∧ InI q3 ∧ InI vx ∧ InI vy ∧ InI vz ∧ InI u ∧ InI v ∧ InI w ∧ InI t then .val (.bool true) [] [] else .fail
    | none => .fail
  | _ => .fail
set_option maxHeartbeats 400000000 in
set_option maxRecDepth 100000 in
theorem lawBeh11_ok : SumOk Tryz.prog 14 lawBeh11S := by
  refine sum_read (L := fun _ => none) (n := 150) (S := stOf behST) drawS Tryz.T_ok (stOf_ok (by simp [behST, pMove_ok, pts_ok, gCheck_ok, pCheck_ok, checkB_ok, awake11_ok])) Tryz.func14 rfl (by kernel_rfl) (by kernel_rfl) ?_
  intro args env nxt h
  unfold lawBeh11S at h ⊢
  split at h
  · rename_i p1 p2 p3 q0 q1 q2 q3 vx vy vz u v w t kd r x y z l
    split at h
    · rename_i n f hl
      split at h
      · rename_i hc
        simp only [if_pos hc]
        obtain ⟨hlw, hin⟩ := id hc
        rcases laid_shape (fun l => [.agg [.int .i64 p1, .int .i64 p2, .int .i64 p3, .int .i64 q0, .int .i64 q1, .int .i64 q2, .int .i64 q3], .agg [.int .i64 vx, .int .i64 vy, .int .i64 vz], .agg [.int .i64 u, .int .i64 v, .int .i64 w], .int .i64 t, .agg [.int .i64 kd, .int .i64 r, .int .i64 x, .int .i64 y, .int .i64 z, l]]) hl (fun _ _ => rfl) (fun l => by simp) with ⟨rfl, rfl, rfl, hlaid⟩ | ⟨p, o1, c, items, ty, rfl, hlaid, hnc, hr', -, hE, hE2, hload⟩
        · refine ⟨_, _, _, .bool true, hlaid, rfl, rfl, rfl, ?_⟩
          have hct := eq_true (hlw.sh (by decide))
          rcases pMove_two hin with ⟨cd, c0, hm⟩ | ⟨P1, P2, P3, Q0, Q1, Q2, Q3, cl, ⟨I1, I2, I3, I4, I5, I6, I7⟩, pl, tt, hm⟩
          · simp (maxSteps := 10000000) [-pMoveS_val, Tryz.f14, behST, hm, c0]
          · have ptt := eq_true (And.intro pl tt)
            by_cases ok : ckI kd r x y z 0 (fun _ => 0) = 0
            · obtain ⟨r0, r1, hs, M1, M2, hsm⟩ := ck_ok ok
              obtain ⟨R0, R1, R2⟩ := Turn_rows tt
              obtain ⟨pl1, pl2, pl3⟩ := place_PlN.1 pl
              simp (maxSteps := 10000000) [-loopA_succ, -pMoveS_val, Tryz.f14, behST, ptsBS, hct, pl, tt, hm, I1, I2, I3, I4, I5, I6, I7, ok]
              intro k
              simp only [good_bind, good_unblock]
              refine beh_loop (b4 := 4) (b0 := 3) (p := 5) (N := coN kd 0) (k := k) (by omega) (pt_far (F := coF kd x y z (fun _ => 0)) (n := coN kd 0) pl1 pl2 pl3 R0 R1 R2 hsm) (fun ts m hfit => ?_) ?_ ?_
              · obtain ⟨g, rfl⟩ := fits_of hfit 0
                simp (maxSteps := 10000000) [behP, checkBS, hct, pl, tt, I1, I2, I3, I4, I5, I6, I7, ok]
              · rfl
              · simp [behP]
            · simp (maxSteps := 10000000) [-pMoveS_val, Tryz.f14, behST, ptsBS, checkBS, hct, pl, tt, hm, I1, I2, I3, I4, I5, I6, I7, ok]
        · refine ⟨_, _, _, .bool true, hlaid, rfl, rfl, rfl, ?_⟩
          by_cases hn : (100 : Int) < n
          · simp (maxSteps := 10000000) [Tryz.f14, behST, hn]
          · have hct := eq_true (hlw.sh hn)
            rcases pMove_two hin with ⟨cd, c0, hm⟩ | ⟨P1, P2, P3, Q0, Q1, Q2, Q3, cl, ⟨I1, I2, I3, I4, I5, I6, I7⟩, pl, tt, hm⟩
            · simp (maxSteps := 10000000) [-pMoveS_val, Tryz.f14, behST, hm, c0, hn]
            · have ptt := eq_true (And.intro pl tt)
              by_cases ok : ckI kd r x y z n f = 0
              · obtain ⟨r0, r1, hs, M1, M2, hsm⟩ := ck_ok ok
                obtain ⟨R0, R1, R2⟩ := Turn_rows tt
                obtain ⟨pl1, pl2, pl3⟩ := place_PlN.1 pl
                simp (maxSteps := 10000000) [-loopA_succ, -pMoveS_val, Tryz.f14, behST, ptsBS, hct, pl, tt, hm, I1, I2, I3, I4, I5, I6, I7, hE, hn, ok]
                intro k
                simp only [good_bind, good_unblock]
                refine beh_loop (b4 := 5) (b0 := 4) (p := 6) (N := coN kd n) (k := k) (by omega) (pt_far (F := coF kd x y z f) (n := coN kd n) pl1 pl2 pl3 R0 R1 R2 hsm) (fun ts m hfit => ?_) ?_ ?_
                · obtain ⟨g, rfl⟩ := fits_of hfit 0
                  simp (maxSteps := 10000000) [behP, checkBS, hct, pl, tt, I1, I2, I3, I4, I5, I6, I7, hE, ok]
                · rfl
                · simp [behP]
              · simp (maxSteps := 10000000) [-pMoveS_val, Tryz.f14, behST, ptsBS, checkBS, hct, pl, tt, hm, I1, I2, I3, I4, I5, I6, I7, hE, hn, ok]
      · simp [*] at h
    · simp [*] at h
  · simp at h
end Go.X
