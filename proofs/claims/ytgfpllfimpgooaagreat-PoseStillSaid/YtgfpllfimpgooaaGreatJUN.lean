/- The points of a shape in a pose. -/
import Derived.Test.YtgfpllfimpgooaaGreatJUN1
namespace Go.X
open Go.Proofs
attribute [local irreducible] Good

/-- the points' numbers -/
noncomputable def ptO (p1 p2 p3 a00 a01 a02 a10 a11 a12 a20 a21 a22 : Int) (F : Nat → Int) (j : Nat) : Int :=
  if j % 3 = 0 then nearI (ouI p1 a00 a01 a02 (F (j / 3 * 3)) (F (j / 3 * 3 + 1)) (F (j / 3 * 3 + 2))) else if j % 3 = 1 then nearI (ouI p2 a10 a11 a12 (F (j / 3 * 3)) (F (j / 3 * 3 + 1)) (F (j / 3 * 3 + 2))) else nearI (ouI p3 a20 a21 a22 (F (j / 3 * 3)) (F (j / 3 * 3 + 1)) (F (j / 3 * 3 + 2)))
theorem pt_get {p1 p2 p3 a00 a01 a02 a10 a11 a12 a20 a21 a22 : Int} {F : Nat → Int} {i : Nat} :
    ptO p1 p2 p3 a00 a01 a02 a10 a11 a12 a20 a21 a22 F (i * 3) = nearI (ouI p1 a00 a01 a02 (F (i * 3)) (F (i * 3 + 1)) (F (i * 3 + 2))) ∧
    ptO p1 p2 p3 a00 a01 a02 a10 a11 a12 a20 a21 a22 F (i * 3 + 1) = nearI (ouI p2 a10 a11 a12 (F (i * 3)) (F (i * 3 + 1)) (F (i * 3 + 2))) ∧
    ptO p1 p2 p3 a00 a01 a02 a10 a11 a12 a20 a21 a22 F (i * 3 + 2) = nearI (ouI p3 a20 a21 a22 (F (i * 3)) (F (i * 3 + 1)) (F (i * 3 + 2))) := by
  have a0 : i * 3 % 3 = 0 := by omega
  have a1 : (i * 3 + 1) % 3 = 1 := by omega
  have a2 : (i * 3 + 2) % 3 = 2 := by omega
  have b0 : i * 3 / 3 = i := by omega
  have b1 : (i * 3 + 1) / 3 = i := by omega
  have b2 : (i * 3 + 2) / 3 = i := by omega
  refine ⟨?_, ?_, ?_⟩ <;> simp [ptO, a0, a1, a2, b0, b1, b2]
/-- a list of points, with room for so many more -/
abbrev PB (n c : Nat) (F : Nat → Int) : Blk := ⟨[.arr .i64 ((n + c) * 3) (cutL (n * 3) F)], 44⟩
abbrev FRB (p1 p2 p3 q0 q1 q2 q3 a00 a01 a02 a10 a11 a12 a20 a21 a22 : Int) : Blk := ⟨[.int .i64 p1, .int .i64 p2, .int .i64 p3, .int .i64 q0, .int .i64 q1, .int .i64 q2, .int .i64 q3, .int .i64 a00, .int .i64 a01, .int .i64 a02, .int .i64 a10, .int .i64 a11, .int .i64 a12, .int .i64 a20, .int .i64 a21, .int .i64 a22], 99⟩
theorem kept_len {m mi : List Blk} (hm : ∀ j, j < mi.length → m[j]? = mi[j]?) : mi.length ≤ m.length := by
  rcases Nat.eq_zero_or_pos mi.length with h | h
  · omega
  · have := hm (mi.length - 1) (by omega)
    rw [List.getElem?_eq_getElem (l := mi) (by omega)] at this
    have := (List.getElem?_eq_some_iff.1 this).1
    omega
noncomputable def ptsST : List (FuncId × Sum) := [(60, pofS), (22, coreBS), (61, poutS), (23, pureS gRoundWS)]
noncomputable def ptsLoop : Code := match Tryz.f21.body with | some (.seq _ (.seq _ (.seq _ (.seq _ (.seq _ (.seq _ (.seq _ (.seq (.seq _ (.block _ (.loop c))) _)))))))) => c | _ => .skip
noncomputable def ptsP (fr p N k : Nat) (l : AV) (i : Option AV) : List (Option AV) := [none, none, none, none, none, none, none, none, none, some (.mv 61 [.ptr fr 0]), some l, none, none, none, none, none, none, none, none, none, none, none, none, none, none, none, none, none, none, none, none, none, none, some (.slice p 0 N (N + k)), some (.int .i64 N), i, none, none, none, none, none, none, none, none, none, none, none, none, none, none, none, none]
set_option maxHeartbeats 40000000 in
set_option maxRecDepth 100000 in
theorem pts_loop {p1 p2 p3 q0 q1 q2 q3 a00 a01 a02 a10 a11 a12 a20 a21 a22 : Int} {fr p N k : Nat} {F : Nat → Int} {mi : List Blk} (hN : N ≤ 100) (hF : ∀ j, j < N * 3 → SmN (F j)) (hp1 : PlN p1) (hp2 : PlN p2) (hp3 : PlN p3) (h00 : One1 a00) (h01 : One1 a01) (h02 : One1 a02) (h10 : One1 a10) (h11 : One1 a11) (h12 : One1 a12) (h20 : One1 a20) (h21 : One1 a21) (h22 : One1 a22) {Q : Ex → St → Prop}
    (hQ : ∀ (ts : List AV) (m : List Blk) (l : AV), Fits (ptsP fr p N k l none) ts → (∀ j, j < mi.length → m[j]? = mi[j]?) → LA m 3 44 l N (ptO p1 p2 p3 a00 a01 a02 a10 a11 a12 a20 a21 a22 F) → (∀ q, q ∈ refs l → mi.length ≤ q) → Q (.exit 0) ⟨ts, m, []⟩)
    {ts : List AV} (hp : mi[p]? = some (VB N k F)) (hf : mi[fr]? = some (FRB p1 p2 p3 q0 q1 q2 q3 a00 a01 a02 a10 a11 a12 a20 a21 a22)) (h0 : Fits (ptsP fr p N k .nilslice (some (.int .i64 0))) ts) :
    Good (loopA (exec Tryz.T (stOf ptsST) (fun _ => none) 150 ptsLoop) 150 ⟨ts, mi, []⟩) Q := by
  refine loop_rule (fun x s => ∃ (i : Nat) (l : AV), i + x = N ∧ Fits (ptsP fr p N k l (some (.int .i64 i))) s.ts ∧ (∀ j, j < mi.length → s.m[j]? = mi[j]?) ∧ LA s.m 3 44 l i (ptO p1 p2 p3 a00 a01 a02 a10 a11 a12 a20 a21 a22 F) ∧ (∀ q, q ∈ refs l → mi.length ≤ q) ∧ s.df = []) ?_ 150 N _ (by omega)
    ⟨0, .nilslice, by omega, h0, fun _ _ => rfl, LA.nil, by simp [refs], rfl⟩
  rintro x ⟨ts, m, df⟩ ⟨i, l, hix, hfit, hm, hl, hlr0, hd⟩
  simp only at hfit hm hl hd
  subst hd
  obtain ⟨g, rfl⟩ := fits_of hfit 0
  by_cases hi : i < N
  · have hi1 : (i : Int) < N := by omega
    have w1 : IntKind.i64.wrap ((i : Int) + 1) = i + 1 := wrap_i64_in (by omega) (by omega)
    have hml := kept_len hm
    have hpl : p < mi.length := (List.getElem?_eq_some_iff.1 hp).1
    have hfl : fr < mi.length := (List.getElem?_eq_some_iff.1 hf).1
    have hmp : m[p]? = some (VB N k F) := by rw [hm p hpl]; exact hp
    have hmf : m[fr]? = some (FRB p1 p2 p3 q0 q1 q2 q3 a00 a01 a02 a10 a11 a12 a20 a21 a22) := by rw [hm fr hfl]; exact hf
    obtain ⟨⟨lp, Np⟩, l0⟩ := load_VB hmp hi
    have lf : fr < m.length := by omega
    have Nf : ∀ h : fr < m.length, m[fr]'h = FRB p1 p2 p3 q0 q1 q2 q3 a00 a01 a02 a10 a11 a12 a20 a21 a22 := fun h => (List.getElem?_eq_some_iff.1 hmf).2
    have Lf : ∀ x, (m ++ x)[fr]? = some (FRB p1 p2 p3 q0 q1 q2 q3 a00 a01 a02 a10 a11 a12 a20 a21 a22) := fun x => by rw [List.getElem?_append_left lf]; exact hmf
    have s0 : SmN (F (i * 3)) := hF _ (by omega)
    have s1 : SmN (F (i * 3 + 1)) := hF _ (by omega)
    have s2 : SmN (F (i * 3 + 2)) := hF _ (by omega)
    have v0 := sm_in s0
    have v1 := sm_in s1
    have v2 := sm_in s2
    have o1 : LgN (ouI p1 a00 a01 a02 (F (i * 3)) (F (i * 3 + 1)) (F (i * 3 + 2))) := ouI_lg hp1 h00 h01 h02 s0 s1 s2
    have o2 : LgN (ouI p2 a10 a11 a12 (F (i * 3)) (F (i * 3 + 1)) (F (i * 3 + 2))) := ouI_lg hp2 h10 h11 h12 s0 s1 s2
    have o3 : LgN (ouI p3 a20 a21 a22 (F (i * 3)) (F (i * 3 + 1)) (F (i * 3 + 2))) := ouI_lg hp3 h20 h21 h22 s0 s1 s2
    have oi : ∀ {p a b c x y z : Int}, InI (ouI p a b c x y z) := ouI_in
    have g3 : (∀ q, q ∈ refs l → q < m.length) = True := eq_true hl.ref.2.2
    have g0 := hl.ref
    have in1 : ∀ {a : Int}, One1 a → InI a := fun {a} h => by unfold One1 at h; unfold InI; omega
    have in2 : ∀ {a : Int}, PlN a → InI a := fun {a} h => by unfold PlN at h; unfold InI; omega
    simp (maxSteps := 10000000) [-ofOR, ofOR_val, ptsLoop, ptsP, ptsST, poutS, Tryz.f21, hi1, lp, Np, ↓l0, Lf, modify_end, modify_end2, v0, v1, v2, in2 hp1, in2 hp2, in2 hp3, in1 h00, in1 h01, in1 h02, in1 h10, in1 h11, in1 h12, in1 h20, in1 h21, in1 h22, ouI_is, oi, o1, o2, o3]
    intro cc
    simp only [good_bind, good_unblock]
    refine append_good2 (n := i) (n' := 1) (o' := 0) (F := ptO p1 p2 p3 a00 a01 a02 a10 a11 a12 a20 a21 a22 F) (g := fun j => [nearI (ouI p1 a00 a01 a02 (F (i * 3)) (F (i * 3 + 1)) (F (i * 3 + 2))), nearI (ouI p2 a10 a11 a12 (F (i * 3)) (F (i * 3 + 1)) (F (i * 3 + 2))), nearI (ouI p3 a20 a21 a22 (F (i * 3)) (F (i * 3 + 1)) (F (i * 3 + 2)))][j]?.getD 0) Tryz.T_38 rfl (by decide) rfl (by simp) (hl.keep fun q hq => List.getElem?_append_left (hl.ref.2.2 q hq)) (by simp) rfl (by decide) (by omega) ?_ cc
    intro m' v hk hlen2 hla hlr
    simp [w1]
    refine ⟨x - 1, by omega, i + 1, by omega, v, ⟨rfl, by omega⟩, ?_, ?_, ?_⟩
    · intro j hj
      rw [hk j (by simp <;> omega) (fun h => by have := hlr0 j h; omega), ← hm j hj]
      exact List.getElem?_append_left (by omega)
    · refine hla.congr fun j hj => ?_
      obtain ⟨c0, c1, c2⟩ := pt_get (p1 := p1) (p2 := p2) (p3 := p3) (a00 := a00) (a01 := a01) (a02 := a02) (a10 := a10) (a11 := a11) (a12 := a12) (a20 := a20) (a21 := a21) (a22 := a22) (F := F) (i := i)
      by_cases hj0 : j < i * 3
      · rw [if_pos hj0]
      · rw [if_neg hj0, Nat.zero_add]
        have : j = i * 3 ∨ j = i * 3 + 1 ∨ j = i * 3 + 2 := by omega
        rcases this with rfl | rfl | rfl
        · rw [c0, Nat.sub_self]; rfl
        · rw [c1, show i * 3 + 1 - i * 3 = 1 from by omega]; rfl
        · rw [c2, show i * 3 + 2 - i * 3 = 2 from by omega]; rfl
    · intro q hq
      rcases hlr q hq with h | h
      · exact hlr0 q h
      · simp at h; omega
  · have : i = N := by omega
    subst this
    simp [ptsLoop, ptsP, Tryz.f21]
    exact hQ _ _ _ (by simp [ptsP]) hm hl hlr0
noncomputable def ptsBS : Sum := fun args env nxt => match args with
  | [.agg [.int .i64 p1, .int .i64 p2, .int .i64 p3, .int .i64 q0, .int .i64 q1, .int .i64 q2, .int .i64 q3], .agg [.int .i64 kd, .int .i64 r, .int .i64 x, .int .i64 y, .int .i64 z, l]] => match listE env l with
    | some (n, f) => open Classical in if (InI p1 ∧ InI p2 ∧ InI p3 ∧ InI q0 ∧ InI q1 ∧ InI q2 ∧ InI q3) ∧ ShP kd r x y z n f then if Place p1 p2 p3 ∧ TurnP q0 q1 q2 q3 then (if ckI kd r x y z n f = 0 then .any fun k => .val (.tup [.slice nxt 0 (coN kd n) (coN kd n + k), .int .i64 0]) [] [PB (coN kd n) k (ptO p1 p2 p3 (clampI (quoI (r00 q0 q1 q2 q3 * 4294967296) (sq4 q0 q1 q2 q3))) (clampI (quoI (r01 q0 q1 q2 q3 * 4294967296) (sq4 q0 q1 q2 q3))) (clampI (quoI (r02 q0 q1 q2 q3 * 4294967296) (sq4 q0 q1 q2 q3))) (clampI (quoI (r10 q0 q1 q2 q3 * 4294967296) (sq4 q0 q1 q2 q3))) (clampI (quoI (r11 q0 q1 q2 q3 * 4294967296) (sq4 q0 q1 q2 q3))) (clampI (quoI (r12 q0 q1 q2 q3 * 4294967296) (sq4 q0 q1 q2 q3))) (clampI (quoI (r20 q0 q1 q2 q3 * 4294967296) (sq4 q0 q1 q2 q3))) (clampI (quoI (r21 q0 q1 q2 q3 * 4294967296) (sq4 q0 q1 q2 q3))) (clampI (quoI (r22 q0 q1 q2 q3 * 4294967296) (sq4 q0 q1 q2 q3))) (coF kd x y z f))] else .val (.tup [.nilslice, .int .i64 (ckI kd r x y z n f)]) [] []) else .val (.tup [.nilslice, .int .i64 (if Place p1 p2 p3 then (if TurnP q0 q1 q2 q3 then 0 else 9) else 7)]) [] [] else .fail
    | none => .fail
  | _ => .fail
set_option maxHeartbeats 400000000 in
set_option maxRecDepth 100000 in
theorem pts_ok : SumOk Tryz.prog 21 ptsBS := by
  refine sum_mem (L := fun _ => none) (n := 150) (S := stOf ptsST) drawS Tryz.T_ok (stOf_ok (by simp [ptsST, pof_ok, coreB_ok, pout_ok, gRoundW_ok])) Tryz.func21 rfl (by kernel_rfl) (by kernel_rfl) ?_
  intro args env nxt h
  unfold ptsBS at h ⊢
  split at h
  · rename_i p1 p2 p3 q0 q1 q2 q3 kd r x y z l
    split at h
    · rename_i n f hl
      split at h
      · rename_i hc
        simp only [if_pos hc]
        obtain ⟨⟨i1, i2, i3, j0, j1, j2, j3⟩, hkd, hr, hx, hy, hz, hn, hF⟩ := id hc
        rcases laid_shape (fun l => [.agg [.int .i64 p1, .int .i64 p2, .int .i64 p3, .int .i64 q0, .int .i64 q1, .int .i64 q2, .int .i64 q3], .agg [.int .i64 kd, .int .i64 r, .int .i64 x, .int .i64 y, .int .i64 z, l]]) hl (fun _ _ => rfl) (fun l => by simp) with ⟨rfl, rfl, rfl, hlaid⟩ | ⟨p, o1, c, items, ty, rfl, hlaid, hnc, hr', ⟨o, F, hrow, hf⟩, hE, hE2, hload⟩
        · refine ⟨_, _, _, hlaid, ?_⟩
          have hct := eq_true hc.2
          by_cases pt : Place p1 p2 p3 ∧ TurnP q0 q1 q2 q3
          · have ptt := eq_true pt
            by_cases ok : ckI kd r x y z 0 (fun _ => 0) = 0
            · obtain ⟨r0, r1, hs, M1, M2, hsm⟩ := ck_ok ok
              obtain ⟨⟨t00, t01, t02⟩, ⟨t10, t11, t12⟩, t20, t21, t22⟩ := Turn_one pt.2
              obtain ⟨pl1, pl2, pl3⟩ := place_PlN.1 pt.1
              simp (maxSteps := 10000000) [-loopA_succ, Tryz.f21, ptsST, pofS, coreBS, hct, ok, pt.1, pt.2, i1, i2, i3, j0, j1, j2, j3]
              intro k
              simp only [good_bind, good_unblock]
              refine pts_loop (fr := 2) (p := 3) (N := coN kd 0) (k := k) (F := coF kd x y z (fun _ => 0)) (q0 := q0) (q1 := q1) (q2 := q2) (q3 := q3) (by omega) hsm pl1 pl2 pl3 t00 t01 t02 t10 t11 t12 t20 t21 t22 (fun ts m l hfit hm hla hlr => ?_) ?_ ?_ ?_
              · obtain ⟨g, rfl⟩ := fits_of hfit 0
                obtain ⟨q, cc, rfl, hq⟩ : ∃ q cc, l = .slice q 0 (coN kd 0) (coN kd 0 + cc) ∧ m[q]? = some (PB (coN kd 0) cc _) := by
                  rcases hla with ⟨-, h⟩ | h
                  · omega
                  · exact h
                have hq1 := hlr q (by simp [refs])
                simp at hq1
                simp [ptsP]
                refine ⟨[q], none, .inr ⟨_, ⟨cc, rfl⟩, ?_⟩⟩
                exact told_one (by simp) hq (by simp) (by simp) (by simp [AV.ren, renL, glob]; try omega) (by simp [refs, refsL]) (by simp)
              · rfl
              · rfl
              · simp [ptsP]
            · simp (maxSteps := 10000000) [-loopA_succ, Tryz.f21, ptsST, pofS, coreBS, hct, ok, pt.1, pt.2, i1, i2, i3, j0, j1, j2, j3]
              exact ⟨[], none, told_none (by simp) (by simp) (by simp) (by simp)⟩
          · have ptt := eq_false pt
            by_cases pl : Place p1 p2 p3
            · have tt : ¬ TurnP q0 q1 q2 q3 := fun h => pt ⟨pl, h⟩
              simp (maxSteps := 10000000) [-loopA_succ, Tryz.f21, ptsST, pofS, pl, tt, i1, i2, i3, j0, j1, j2, j3]
              exact ⟨[], none, told_none (by simp) (by simp) (by simp) (by simp)⟩
            · simp (maxSteps := 10000000) [-loopA_succ, Tryz.f21, ptsST, pofS, pl, i1, i2, i3, j0, j1, j2, j3]
              exact ⟨[], none, told_none (by simp) (by simp) (by simp) (by simp)⟩
        · refine ⟨_, _, _, hlaid, ?_⟩
          have hct := eq_true hc.2
          by_cases pt : Place p1 p2 p3 ∧ TurnP q0 q1 q2 q3
          · have ptt := eq_true pt
            by_cases ok : ckI kd r x y z n f = 0
            · obtain ⟨r0, r1, hs, M1, M2, hsm⟩ := ck_ok ok
              obtain ⟨⟨t00, t01, t02⟩, ⟨t10, t11, t12⟩, t20, t21, t22⟩ := Turn_one pt.2
              obtain ⟨pl1, pl2, pl3⟩ := place_PlN.1 pt.1
              simp (maxSteps := 10000000) [-loopA_succ, Tryz.f21, ptsST, pofS, coreBS, hE, hct, ok, pt.1, pt.2, i1, i2, i3, j0, j1, j2, j3]
              intro k
              simp only [good_bind, good_unblock]
              refine pts_loop (fr := 3) (p := 4) (N := coN kd n) (k := k) (F := coF kd x y z f) (q0 := q0) (q1 := q1) (q2 := q2) (q3 := q3) (by omega) hsm pl1 pl2 pl3 t00 t01 t02 t10 t11 t12 t20 t21 t22 (fun ts m l hfit hm hla hlr => ?_) ?_ ?_ ?_
              · obtain ⟨g, rfl⟩ := fits_of hfit 0
                have m0 : m[0]? = some ⟨items, ty⟩ := hm 0 (by simp)
                obtain ⟨q, cc, rfl, hq⟩ : ∃ q cc, l = .slice q 0 (coN kd n) (coN kd n + cc) ∧ m[q]? = some (PB (coN kd n) cc _) := by
                  rcases hla with ⟨-, h⟩ | h
                  · omega
                  · exact h
                have hq1 := hlr q (by simp [refs])
                simp at hq1
                simp [ptsP]
                refine ⟨[q], none, .inr ⟨_, ⟨cc, rfl⟩, ?_⟩⟩
                exact told_row (by omega) hq m0 (by simp) (by simp [AV.ren, renL, glob]; try omega) (by simp [refs, refsL]) (by simp) hr'
              · rfl
              · rfl
              · simp [ptsP]
            · simp (maxSteps := 10000000) [-loopA_succ, Tryz.f21, ptsST, pofS, coreBS, hE, hct, ok, pt.1, pt.2, i1, i2, i3, j0, j1, j2, j3]
              exact ⟨[], none, told_none (by simp) (by simp) (by simp) (by simp) (fun i hi => by
                  have : i = 0 := by simpa using hi
                  subst this
                  exact hr')⟩
          · have ptt := eq_false pt
            by_cases pl : Place p1 p2 p3
            · have tt : ¬ TurnP q0 q1 q2 q3 := fun h => pt ⟨pl, h⟩
              simp (maxSteps := 10000000) [-loopA_succ, Tryz.f21, ptsST, pofS, pl, tt, i1, i2, i3, j0, j1, j2, j3]
              exact ⟨[], none, told_none (by simp) (by simp) (by simp) (by simp) (fun i hi => by
                  have : i = 0 := by simpa using hi
                  subst this
                  exact hr')⟩
            · simp (maxSteps := 10000000) [-loopA_succ, Tryz.f21, ptsST, pofS, pl, i1, i2, i3, j0, j1, j2, j3]
              exact ⟨[], none, told_none (by simp) (by simp) (by simp) (by simp) (fun i hi => by
                  have : i = 0 := by simpa using hi
                  subst this
                  exact hr')⟩
      · simp [*] at h
    · simp [*] at h
  · simp at h
abbrev POB (p1 p2 p3 q0 q1 q2 q3 : Int) : Blk := ⟨[.int .i64 p1, .int .i64 p2, .int .i64 p3, .int .i64 q0, .int .i64 q1, .int .i64 q2, .int .i64 q3], 33⟩
noncomputable def r11pST : List (FuncId × Sum) := [(98, pureS r11CheckS), (32, coreBS), (119, pureS r11OutS), (89, pureS r6RoundWS)]
def r11pL (i : Nat) : Option DM := if i = 11 then some (.held 10 [8]) else none
noncomputable def r11pLoop : Code := match Tryz.f55.body with | some (.seq _ (.seq _ (.seq _ (.seq _ (.seq _ (.seq _ (.seq (.seq _ (.block _ (.loop c))) _))))))) => c | _ => .skip
noncomputable def r11pP (fr p N k : Nat) (l : AV) (i : Option AV) : List (Option AV) := [none, none, some (.ptr fr 0), none, none, none, none, some (.slice p 0 N (N + k)), some l, i, none, none, none, none, none, none, none, none, none, none, none, none, none, none, none, none, none, none, none, none, none, none, none, none, none, none, none, none, none, none, none, none, none, none, none, none, none, none, none, none, none, none]
set_option maxHeartbeats 40000000 in
set_option maxRecDepth 100000 in
theorem r11p_loop {p1 p2 p3 q0 q1 q2 q3 a00 a01 a02 a10 a11 a12 a20 a21 a22 : Int} {fr p N k : Nat} {F : Nat → Int} {mi : List Blk} (hN : N ≤ 100) (hF : ∀ j, j < N * 3 → SmN (F j)) (hp1 : PlN p1) (hp2 : PlN p2) (hp3 : PlN p3) (h00 : One1 a00) (h01 : One1 a01) (h02 : One1 a02) (h10 : One1 a10) (h11 : One1 a11) (h12 : One1 a12) (h20 : One1 a20) (h21 : One1 a21) (h22 : One1 a22) (hPl : Place p1 p2 p3) (htt : TurnP q0 q1 q2 q3) (i1 : InI p1) (i2 : InI p2) (i3 : InI p3) (j0 : InI q0) (j1 : InI q1) (j2 : InI q2) (j3 : InI q3) (e00 : clampI (quoI (r00 q0 q1 q2 q3 * 4294967296) (sq4 q0 q1 q2 q3)) = a00) (e01 : clampI (quoI (r01 q0 q1 q2 q3 * 4294967296) (sq4 q0 q1 q2 q3)) = a01) (e02 : clampI (quoI (r02 q0 q1 q2 q3 * 4294967296) (sq4 q0 q1 q2 q3)) = a02) (e10 : clampI (quoI (r10 q0 q1 q2 q3 * 4294967296) (sq4 q0 q1 q2 q3)) = a10) (e11 : clampI (quoI (r11 q0 q1 q2 q3 * 4294967296) (sq4 q0 q1 q2 q3)) = a11) (e12 : clampI (quoI (r12 q0 q1 q2 q3 * 4294967296) (sq4 q0 q1 q2 q3)) = a12) (e20 : clampI (quoI (r20 q0 q1 q2 q3 * 4294967296) (sq4 q0 q1 q2 q3)) = a20) (e21 : clampI (quoI (r21 q0 q1 q2 q3 * 4294967296) (sq4 q0 q1 q2 q3)) = a21) (e22 : clampI (quoI (r22 q0 q1 q2 q3 * 4294967296) (sq4 q0 q1 q2 q3)) = a22) {Q : Ex → St → Prop}
    (hQ : ∀ (ts : List AV) (m : List Blk) (l : AV), Fits (r11pP fr p N k l none) ts → (∀ j, j < mi.length → m[j]? = mi[j]?) → LA m 3 44 l N (ptO p1 p2 p3 a00 a01 a02 a10 a11 a12 a20 a21 a22 F) → (∀ q, q ∈ refs l → mi.length ≤ q) → Q (.exit 0) ⟨ts, m, []⟩)
    {ts : List AV} (hp : mi[p]? = some (VB N k F)) (hf : mi[fr]? = some (POB p1 p2 p3 q0 q1 q2 q3)) (h0 : Fits (r11pP fr p N k .nilslice (some (.int .i64 0))) ts) :
    Good (loopA (exec Tryz.T (stOf r11pST) r11pL 150 r11pLoop) 150 ⟨ts, mi, []⟩) Q := by
  refine loop_rule (fun x s => ∃ (i : Nat) (l : AV), i + x = N ∧ Fits (r11pP fr p N k l (some (.int .i64 i))) s.ts ∧ (∀ j, j < mi.length → s.m[j]? = mi[j]?) ∧ LA s.m 3 44 l i (ptO p1 p2 p3 a00 a01 a02 a10 a11 a12 a20 a21 a22 F) ∧ (∀ q, q ∈ refs l → mi.length ≤ q) ∧ s.df = []) ?_ 150 N _ (by omega)
    ⟨0, .nilslice, by omega, h0, fun _ _ => rfl, LA.nil, by simp [refs], rfl⟩
  rintro x ⟨ts, m, df⟩ ⟨i, l, hix, hfit, hm, hl, hlr0, hd⟩
  simp only at hfit hm hl hd
  subst hd
  obtain ⟨g, rfl⟩ := fits_of hfit 0
  by_cases hi : i < N
  · have hi1 : (i : Int) < N := by omega
    have w1 : IntKind.i64.wrap ((i : Int) + 1) = i + 1 := wrap_i64_in (by omega) (by omega)
    have hml := kept_len hm
    have hpl : p < mi.length := (List.getElem?_eq_some_iff.1 hp).1
    have hfl : fr < mi.length := (List.getElem?_eq_some_iff.1 hf).1
    have hmp : m[p]? = some (VB N k F) := by rw [hm p hpl]; exact hp
    have hmf : m[fr]? = some (POB p1 p2 p3 q0 q1 q2 q3) := by rw [hm fr hfl]; exact hf
    obtain ⟨⟨lp, Np⟩, l0⟩ := load_VB hmp hi
    have lf : fr < m.length := by omega
    have Nf : ∀ h : fr < m.length, m[fr]'h = POB p1 p2 p3 q0 q1 q2 q3 := fun h => (List.getElem?_eq_some_iff.1 hmf).2
    have Lf : ∀ x, (m ++ x)[fr]? = some (POB p1 p2 p3 q0 q1 q2 q3) := fun x => by rw [List.getElem?_append_left lf]; exact hmf
    have s0 : SmN (F (i * 3)) := hF _ (by omega)
    have s1 : SmN (F (i * 3 + 1)) := hF _ (by omega)
    have s2 : SmN (F (i * 3 + 2)) := hF _ (by omega)
    have v0 := sm_in s0
    have v1 := sm_in s1
    have v2 := sm_in s2
    have o1 : LgN (ouI p1 a00 a01 a02 (F (i * 3)) (F (i * 3 + 1)) (F (i * 3 + 2))) := ouI_lg hp1 h00 h01 h02 s0 s1 s2
    have o2 : LgN (ouI p2 a10 a11 a12 (F (i * 3)) (F (i * 3 + 1)) (F (i * 3 + 2))) := ouI_lg hp2 h10 h11 h12 s0 s1 s2
    have o3 : LgN (ouI p3 a20 a21 a22 (F (i * 3)) (F (i * 3 + 1)) (F (i * 3 + 2))) := ouI_lg hp3 h20 h21 h22 s0 s1 s2
    have oi : ∀ {p a b c x y z : Int}, InI (ouI p a b c x y z) := ouI_in
    have g3 : (∀ q, q ∈ refs l → q < m.length) = True := eq_true hl.ref.2.2
    have g0 := hl.ref
    have in1 : ∀ {a : Int}, One1 a → InI a := fun {a} h => by unfold One1 at h; unfold InI; omega
    have in2 : ∀ {a : Int}, PlN a → InI a := fun {a} h => by unfold PlN at h; unfold InI; omega
    simp (maxSteps := 10000000) [-ofOR, ofOR_val, r11pLoop, r11pP, r11pST, Tryz.f55, hi1, lp, Np, ↓l0, lf, Nf, modify_end, modify_end2, v0, v1, v2, hPl, htt, i1, i2, i3, j0, j1, j2, j3, r11pL, e00, e01, e02, e10, e11, e12, e20, e21, e22, ouI_is, oi, o1, o2, o3]
    intro cc
    simp only [good_bind, good_unblock]
    refine append_good2 (n := i) (n' := 1) (o' := 0) (F := ptO p1 p2 p3 a00 a01 a02 a10 a11 a12 a20 a21 a22 F) (g := fun j => [nearI (ouI p1 a00 a01 a02 (F (i * 3)) (F (i * 3 + 1)) (F (i * 3 + 2))), nearI (ouI p2 a10 a11 a12 (F (i * 3)) (F (i * 3 + 1)) (F (i * 3 + 2))), nearI (ouI p3 a20 a21 a22 (F (i * 3)) (F (i * 3 + 1)) (F (i * 3 + 2)))][j]?.getD 0) Tryz.T_38 rfl (by decide) rfl (by simp) (hl.keep fun q hq => List.getElem?_append_left (hl.ref.2.2 q hq)) (by simp) rfl (by decide) (by omega) ?_ cc
    intro m' v hk hlen2 hla hlr
    simp [w1]
    refine ⟨x - 1, by omega, i + 1, by omega, v, ⟨rfl, by omega⟩, ?_, ?_, ?_⟩
    · intro j hj
      rw [hk j (by simp <;> omega) (fun h => by have := hlr0 j h; omega), ← hm j hj]
      exact List.getElem?_append_left (by omega)
    · refine hla.congr fun j hj => ?_
      obtain ⟨c0, c1, c2⟩ := pt_get (p1 := p1) (p2 := p2) (p3 := p3) (a00 := a00) (a01 := a01) (a02 := a02) (a10 := a10) (a11 := a11) (a12 := a12) (a20 := a20) (a21 := a21) (a22 := a22) (F := F) (i := i)
      by_cases hj0 : j < i * 3
      · rw [if_pos hj0]
      · rw [if_neg hj0, Nat.zero_add]
        have : j = i * 3 ∨ j = i * 3 + 1 ∨ j = i * 3 + 2 := by omega
        rcases this with rfl | rfl | rfl
        · rw [c0, Nat.sub_self]; rfl
        · rw [c1, show i * 3 + 1 - i * 3 = 1 from by omega]; rfl
        · rw [c2, show i * 3 + 2 - i * 3 = 2 from by omega]; rfl
    · intro q hq
      rcases hlr q hq with h | h
      · exact hlr0 q h
      · simp at h; omega
  · have : i = N := by omega
    subst this
    simp [r11pLoop, r11pP, Tryz.f55]
    exact hQ _ _ _ (by simp [r11pP]) hm hl hlr0
set_option maxHeartbeats 400000000 in
set_option maxRecDepth 100000 in
theorem r11pts_ok : SumOk Tryz.prog 55 ptsBS := by
  refine sum_mem (L := r11pL) (n := 150) (S := stOf r11pST) drawS Tryz.T_ok (stOf_ok (by simp [r11pST, r11Check_ok, r9core_ok, r11Out_ok, r6RoundW_ok])) Tryz.func55 rfl (by kernel_rfl) (by kernel_rfl) ?_
  intro args env nxt h
  unfold ptsBS at h ⊢
  split at h
  · rename_i p1 p2 p3 q0 q1 q2 q3 kd r x y z l
    split at h
    · rename_i n f hl
      split at h
      · rename_i hc
        simp only [if_pos hc]
        obtain ⟨⟨i1, i2, i3, j0, j1, j2, j3⟩, hkd, hr, hx, hy, hz, hn, hF⟩ := id hc
        rcases laid_shape (fun l => [.agg [.int .i64 p1, .int .i64 p2, .int .i64 p3, .int .i64 q0, .int .i64 q1, .int .i64 q2, .int .i64 q3], .agg [.int .i64 kd, .int .i64 r, .int .i64 x, .int .i64 y, .int .i64 z, l]]) hl (fun _ _ => rfl) (fun l => by simp) with ⟨rfl, rfl, rfl, hlaid⟩ | ⟨p, o1, c, items, ty, rfl, hlaid, hnc, hr', ⟨o, F, hrow, hf⟩, hE, hE2, hload⟩
        · refine ⟨_, _, _, hlaid, ?_⟩
          have hct := eq_true hc.2
          by_cases pt : Place p1 p2 p3 ∧ TurnP q0 q1 q2 q3
          · have ptt := eq_true pt
            by_cases ok : ckI kd r x y z 0 (fun _ => 0) = 0
            · obtain ⟨r0, r1, hs, M1, M2, hsm⟩ := ck_ok ok
              obtain ⟨⟨t00, t01, t02⟩, ⟨t10, t11, t12⟩, t20, t21, t22⟩ := Turn_one pt.2
              obtain ⟨pl1, pl2, pl3⟩ := place_PlN.1 pt.1
              simp (maxSteps := 10000000) [-loopA_succ, Tryz.f55, r11pST, coreBS, hct, ok, pt.1, pt.2, i1, i2, i3, j0, j1, j2, j3]
              intro k
              simp only [good_bind, good_unblock]
              refine r11p_loop (fr := 0) (p := 2) (N := coN kd 0) (k := k) (F := coF kd x y z (fun _ => 0)) (q0 := q0) (q1 := q1) (q2 := q2) (q3 := q3) (by omega) hsm pl1 pl2 pl3 t00 t01 t02 t10 t11 t12 t20 t21 t22 pt.1 pt.2 i1 i2 i3 j0 j1 j2 j3 rfl rfl rfl rfl rfl rfl rfl rfl rfl (fun ts m l hfit hm hla hlr => ?_) ?_ ?_ ?_
              · obtain ⟨g, rfl⟩ := fits_of hfit 0
                obtain ⟨q, cc, rfl, hq⟩ : ∃ q cc, l = .slice q 0 (coN kd 0) (coN kd 0 + cc) ∧ m[q]? = some (PB (coN kd 0) cc _) := by
                  rcases hla with ⟨-, h⟩ | h
                  · omega
                  · exact h
                have hq1 := hlr q (by simp [refs])
                simp at hq1
                simp [r11pP]
                refine ⟨[q], none, .inr ⟨_, ⟨cc, rfl⟩, ?_⟩⟩
                exact told_one (by simp) hq (by simp) (by simp) (by simp [AV.ren, renL, glob]; try omega) (by simp [refs, refsL]) (by simp)
              · rfl
              · rfl
              · simp [r11pP]
            · simp (maxSteps := 10000000) [-loopA_succ, Tryz.f55, r11pST, coreBS, hct, ok, pt.1, pt.2, i1, i2, i3, j0, j1, j2, j3]
              exact ⟨[], none, told_none (by simp) (by simp) (by simp) (by simp)⟩
          · have ptt := eq_false pt
            by_cases pl : Place p1 p2 p3
            · have tt : ¬ TurnP q0 q1 q2 q3 := fun h => pt ⟨pl, h⟩
              simp (maxSteps := 10000000) [-loopA_succ, Tryz.f55, r11pST, pl, tt, i1, i2, i3, j0, j1, j2, j3]
              exact ⟨[], none, told_none (by simp) (by simp) (by simp) (by simp)⟩
            · simp (maxSteps := 10000000) [-loopA_succ, Tryz.f55, r11pST, pl, i1, i2, i3, j0, j1, j2, j3]
              exact ⟨[], none, told_none (by simp) (by simp) (by simp) (by simp)⟩
        · refine ⟨_, _, _, hlaid, ?_⟩
          have hct := eq_true hc.2
          by_cases pt : Place p1 p2 p3 ∧ TurnP q0 q1 q2 q3
          · have ptt := eq_true pt
            by_cases ok : ckI kd r x y z n f = 0
            · obtain ⟨r0, r1, hs, M1, M2, hsm⟩ := ck_ok ok
              obtain ⟨⟨t00, t01, t02⟩, ⟨t10, t11, t12⟩, t20, t21, t22⟩ := Turn_one pt.2
              obtain ⟨pl1, pl2, pl3⟩ := place_PlN.1 pt.1
              simp (maxSteps := 10000000) [-loopA_succ, Tryz.f55, r11pST, coreBS, hE, hct, ok, pt.1, pt.2, i1, i2, i3, j0, j1, j2, j3]
              intro k
              simp only [good_bind, good_unblock]
              refine r11p_loop (fr := 1) (p := 3) (N := coN kd n) (k := k) (F := coF kd x y z f) (q0 := q0) (q1 := q1) (q2 := q2) (q3 := q3) (by omega) hsm pl1 pl2 pl3 t00 t01 t02 t10 t11 t12 t20 t21 t22 pt.1 pt.2 i1 i2 i3 j0 j1 j2 j3 rfl rfl rfl rfl rfl rfl rfl rfl rfl (fun ts m l hfit hm hla hlr => ?_) ?_ ?_ ?_
              · obtain ⟨g, rfl⟩ := fits_of hfit 0
                have m0 : m[0]? = some ⟨items, ty⟩ := hm 0 (by simp)
                obtain ⟨q, cc, rfl, hq⟩ : ∃ q cc, l = .slice q 0 (coN kd n) (coN kd n + cc) ∧ m[q]? = some (PB (coN kd n) cc _) := by
                  rcases hla with ⟨-, h⟩ | h
                  · omega
                  · exact h
                have hq1 := hlr q (by simp [refs])
                simp at hq1
                simp [r11pP]
                refine ⟨[q], none, .inr ⟨_, ⟨cc, rfl⟩, ?_⟩⟩
                exact told_row (by omega) hq m0 (by simp) (by simp [AV.ren, renL, glob]; try omega) (by simp [refs, refsL]) (by simp) hr'
              · rfl
              · rfl
              · simp [r11pP]
            · simp (maxSteps := 10000000) [-loopA_succ, Tryz.f55, r11pST, coreBS, hE, hct, ok, pt.1, pt.2, i1, i2, i3, j0, j1, j2, j3]
              exact ⟨[], none, told_none (by simp) (by simp) (by simp) (by simp) (fun i hi => by
                  have : i = 0 := by simpa using hi
                  subst this
                  exact hr')⟩
          · have ptt := eq_false pt
            by_cases pl : Place p1 p2 p3
            · have tt : ¬ TurnP q0 q1 q2 q3 := fun h => pt ⟨pl, h⟩
              simp (maxSteps := 10000000) [-loopA_succ, Tryz.f55, r11pST, pl, tt, i1, i2, i3, j0, j1, j2, j3]
              exact ⟨[], none, told_none (by simp) (by simp) (by simp) (by simp) (fun i hi => by
                  have : i = 0 := by simpa using hi
                  subst this
                  exact hr')⟩
            · simp (maxSteps := 10000000) [-loopA_succ, Tryz.f55, r11pST, pl, i1, i2, i3, j0, j1, j2, j3]
              exact ⟨[], none, told_none (by simp) (by simp) (by simp) (by simp) (fun i hi => by
                  have : i = 0 := by simpa using hi
                  subst this
                  exact hr')⟩
      · simp [*] at h
    · simp [*] at h
  · simp at h
end Go.X
