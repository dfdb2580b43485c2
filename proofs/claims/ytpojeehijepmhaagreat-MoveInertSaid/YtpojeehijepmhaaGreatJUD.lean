/- Shapes with a list: Check. -/
import Derived.Test.YtpojeehijepmhaaGreatGQ
namespace Go.X
open Go.Proofs
attribute [local irreducible] Good
theorem modify_end2 {m : List Blk} {a b : Blk} {f : Blk → Blk} : (m ++ [a, b]).modify (m.length + 1) f = m ++ [a, f b] := by
  have e : m ++ [a, b] = (m ++ [a]) ++ [b] := by simp
  have l : m.length + 1 = (m ++ [a]).length := by simp
  rw [e, l, modify_end]
  simp
noncomputable def checkST : List (FuncId × Sum) := [(109, kindsS), (160, kin2LS), (162, kin4LS), (164, kin6LS), (166, kin7LS), (110, pureS small9S), (111, pureS gRoundS), (112, rankBS)]
def checkLL (i : Nat) : Option DM := if i = 2 then some (.quiet 29) else none
noncomputable def checkLoop : Code := match Tryz.f49.body with | some (.seq _ (.seq _ (.seq _ (.seq _ (.seq (.seq _ (.block _ (.loop c))) _))))) => c | _ => .skip
noncomputable def checkP (q : Option AV) (l sl : AV) (n : Nat) (i : Option AV) : List (Option AV) := [none, some (.ptr 1 0), q, none, some l, none, none, none, none, none, none, none, none, none, none, none, none, none, none, none, none, none, none, none, none, none, none, none, none, none, none, none, none, none, none, none, none, none, none, none, none, none, some sl, some (.int .i64 n), i, none, none, none, none, none, none, none, none, none, none, none, none, none, none, none, none, none, none, none, none, none, none, none, none, none, none, none, none]
set_option maxHeartbeats 40000000 in
set_option maxRecDepth 100000 in
theorem check_loop {items : List AV} {ty : TypeId} {o1 n c : Nat} {f : Nat → Int} {sh : List AV} (hn : n ≤ 100) (hF : ∀ j, j < n * 3 → InI (f j))
    (hload : ∀ i, i < n → ∀ fs z q, loadB ⟨.struct fs, 3, z, q⟩ ⟨items, ty⟩ (o1 + i * 3) = some (.agg [.int .i64 (f (i * 3)), .int .i64 (f (i * 3 + 1)), .int .i64 (f (i * 3 + 2))])) {Q : Ex → St → Prop}
    (hQ1 : ∀ (ts : List AV) (m : List Blk) (l : AV), Fits (checkP none l (.slice 0 o1 n c) n none) ts → m[0]? = some ⟨items, ty⟩ → m[1]? = some ⟨sh, 27⟩ → LA m 3 148 l n (nrF f) → (∀ j, j < n * 3 → SmN (f j)) → Q (.exit 0) ⟨ts, m, []⟩)
    (hQ2 : ∀ (ts : List AV) (m : List Blk) (l : AV), Fits (checkP (some (.int .i64 2)) l (.slice 0 o1 n c) n none) ts → m[0]? = some ⟨items, ty⟩ → (¬ ∀ j, j < n * 3 → SmN (f j)) → Q .ret ⟨ts, m, []⟩)
    {ts : List AV} {m0 : List Blk} (hm0 : m0[0]? = some ⟨items, ty⟩) (hm1 : m0[1]? = some ⟨sh, 27⟩) (h0 : Fits (checkP none .nilslice (.slice 0 o1 n c) n (some (.int .i64 0))) ts) :
    Good (loopA (exec Tryz.T (stOf checkST) checkLL 150 checkLoop) 150 ⟨ts, m0, []⟩) Q := by
  refine loop_rule (fun k s => ∃ (i : Nat) (l : AV), i + k = n ∧ Fits (checkP none l (.slice 0 o1 n c) n (some (.int .i64 i))) s.ts ∧ s.m[0]? = some ⟨items, ty⟩ ∧ s.m[1]? = some ⟨sh, 27⟩ ∧ LA s.m 3 148 l i (nrF f) ∧ (∀ q, q ∈ refs l → 2 ≤ q) ∧ (∀ j, j < i * 3 → SmN (f j)) ∧ s.df = []) ?_ 150 n _ (by omega)
    ⟨0, .nilslice, by omega, h0, hm0, hm1, LA.nil, by simp [refs], by omega, rfl⟩
  rintro k ⟨ts, m, df⟩ ⟨i, l, hik, hfit, hm, hm1, hl, hlr0, hsm, hd⟩
  simp only at hfit hm hm1 hl hd
  subst hd
  obtain ⟨g, rfl⟩ := fits_of hfit 0
  by_cases hi : i < n
  · have hi1 : (i : Int) < n := by omega
    have w1 : IntKind.i64.wrap ((i : Int) + 1) = i + 1 := wrap_i64_in (by omega) (by omega)
    have hlen1 : 1 < m.length := (List.getElem?_eq_some_iff.1 hm1).1
    have hlen : 0 < m.length := by omega
    have l0 := hload i hi
    have p0 : InI (f (i * 3)) := hF _ (by omega)
    have p1 : InI (f (i * 3 + 1)) := hF _ (by omega)
    have p2 : InI (f (i * 3 + 2)) := hF _ (by omega)
    have N0 : ∀ (h : 0 < m.length), m[0]'h = ⟨items, ty⟩ := fun h => Option.some.inj ((List.getElem?_eq_getElem h).symm.trans hm)
    have N1 : ∀ (h : 1 < m.length), m[1]'h = ⟨sh, 27⟩ := fun h => Option.some.inj ((List.getElem?_eq_getElem h).symm.trans hm1)
    have L0 : ∀ x, (m ++ x)[0]? = some ⟨items, ty⟩ := fun x => by rw [List.getElem?_append_left hlen]; exact hm
    have L1 : ∀ x, (m ++ x)[1]? = some ⟨sh, 27⟩ := fun x => by rw [List.getElem?_append_left hlen1]; exact hm1
    have g3 : (∀ q, q ∈ refs l → q < m.length) = True := eq_true hl.ref.2.2
    have g0 := hl.ref
    by_cases hs : Size3 (f (i * 3)) (f (i * 3 + 1)) (f (i * 3 + 2))
    · have s0 : SmN (f (i * 3)) := hs.1
      have s1 : SmN (f (i * 3 + 1)) := hs.2.1
      have s2 : SmN (f (i * 3 + 2)) := hs.2.2
      simp [-ofOR, ofOR_val, checkLoop, checkP, checkST, Tryz.f49, hi1, hlen, N0, l0, modify_end, modify_end2, p0, p1, p2, hs, s0, s1, s2]
      intro cc
      simp only [good_bind, good_unblock]
      refine append_good2 (n := i) (n' := 1) (o' := 0) (F := nrF f) (g := fun j => [nearI (f (i * 3)), nearI (f (i * 3 + 1)), nearI (f (i * 3 + 2))][j]?.getD 0) Tryz.T_146 rfl (by decide) rfl (by simp) (hl.keep fun q hq => List.getElem?_append_left (hl.ref.2.2 q hq)) (by simp) rfl (by decide) (by omega) ?_ cc
      intro m' v hk hlen2 hla hlr
      simp [w1]
      refine ⟨k - 1, by omega, i + 1, by omega, v, ⟨rfl, by omega⟩, ?_, ?_, ?_, ?_, ?_⟩
      · rw [hk 0 (by simp) (fun h => by have := hlr0 0 h; omega)]; exact L0 _
      · rw [hk 1 (by simp) (fun h => by have := hlr0 1 h; omega)]; exact L1 _
      · refine hla.congr fun j hj => ?_
        by_cases hj0 : j < i * 3
        · simp only [hj0, if_true]
        · simp only [hj0, if_false, Nat.zero_add]
          have : j = i * 3 ∨ j = i * 3 + 1 ∨ j = i * 3 + 2 := by omega
          rcases this with rfl | rfl | rfl
          · rw [Nat.sub_self]; rfl
          · rw [show i * 3 + 1 - i * 3 = 1 from by omega]; rfl
          · rw [show i * 3 + 2 - i * 3 = 2 from by omega]; rfl
      · intro q hq
        rcases hlr q hq with h | h
        · exact hlr0 q h
        · simp at h; omega
      · intro j hj
        by_cases hj0 : j < i * 3
        · exact hsm j hj0
        · have : j = i * 3 ∨ j = i * 3 + 1 ∨ j = i * 3 + 2 := by omega
          rcases this with rfl | rfl | rfl
          · exact s0
          · exact s1
          · exact s2
    · simp [-ofOR, ofOR_val, checkLoop, checkP, checkST, Tryz.f49, hi1, hlen, N0, l0, modify_end, p0, p1, p2, hs]
      exact hQ2 _ _ l (by simp [checkP]) (L0 _) fun h => hs ⟨h _ (by omega), h _ (by omega), h _ (by omega)⟩
  · have : i = n := by omega
    subst this
    simp [checkLoop, checkP, Tryz.f49]
    exact hQ1 _ _ _ (by simp [checkP]) hm hm1 hl hsm
theorem four_congr {f g : Nat → Int} {n : Nat} (h : ∀ j, j < n * 3 → f j = g j) : Four f n ↔ Four g n := by
  have key : ∀ {i k j : Nat}, j < n → k < n → i < n → dtP (ptF f 0) (ptF f j) (ptF f k) (ptF f i) = dtP (ptF g 0) (ptF g j) (ptF g k) (ptF g i) := by
    intro i k j hj hk hi
    refine dt_congr (fun e he => ?_) (fun e he => ?_) (fun e he => ?_) fun e he => ?_ <;> exact h _ (by omega)
  constructor
  · rintro ⟨i, k, j, h1, h2, h3, h4, h5⟩
    exact ⟨i, k, j, h1, h2, h3, h4, by rw [← key (by omega) (by omega) h4]; exact h5⟩
  · rintro ⟨i, k, j, h1, h2, h3, h4, h5⟩
    exact ⟨i, k, j, h1, h2, h3, h4, by rw [key (by omega) (by omega) h4]; exact h5⟩
theorem ck_4no {r x y z : Int} {n : Nat} {f : Nat → Int} (h : ¬ May4 r x y z n f) : ckI 4 r x y z n f = 2 := by unfold ckI; rw [if_pos rfl, if_neg h]
theorem ck_n {kd r x y z : Int} {n : Nat} {f : Nat → Int} (h4 : ¬ kd = 4) (h : ¬ (OkN kd r x y z ∧ n = 0)) : ckI kd r x y z n f = 2 := by unfold ckI; rw [if_neg h4, if_neg h]
theorem ck_0 {kd r x y z : Int} {f : Nat → Int} (h4 : ¬ kd = 4) : ckI kd r x y z 0 f = if OkN kd r x y z then 0 else 2 := by
  unfold ckI; rw [if_neg h4]
  by_cases h : OkN kd r x y z <;> simp [h]
noncomputable def checkLS : Sum := fun args env _ => match args with
  | [.agg [.int .i64 kd, .int .i64 r, .int .i64 x, .int .i64 y, .int .i64 z, .slice p o1 n0 c]] => match listE env (.slice p o1 n0 c) with
    | some (n, f) => open Classical in if ShP kd r x y z n f then .val (.int .i64 (ckI kd r x y z n f)) [] [] else .fail
    | none => .fail
  | _ => .fail
set_option maxHeartbeats 400000000 in
set_option maxRecDepth 100000 in
theorem checkL_ok : SumOk Tryz.prog 49 checkLS := by
  refine sum_read (L := checkLL) (n := 150) (S := stOf checkST) drawS Tryz.T_ok (stOf_ok (by simp [checkST, kinds_ok, kin2L_ok, kin4L_ok, kin6L_ok, kin7L_ok, small9_ok, gRound_ok, rankB_ok])) Tryz.func49 rfl (by kernel_rfl) (by kernel_rfl) ?_
  intro args env nxt h
  unfold checkLS at h ⊢
  split at h
  · rename_i kd r x y z p o1 n0 c
    split at h
    · rename_i n f hl
      split at h
      · rename_i hc
        simp only [if_pos hc]
        obtain ⟨hkd, hr, hx, hy, hz, hn, hF⟩ := id hc
        obtain ⟨rfl, hnc, items, ty, hp, hri, ⟨o, F, hrow, hf⟩, hload⟩ := listE_slice hl
        have hE := listE_own hrow hf hnc
        have hE2 := listE_ownE hrow hf hnc
        refine ⟨_, _, _, .int .i64 (ckI kd r x y z n f), laid1 [.agg [.int .i64 kd, .int .i64 r, .int .i64 x, .int .i64 y, .int .i64 z, .slice 0 o1 n c]] rfl (by simp) hp hri, rfl, rfl, rfl, ?_⟩
        by_cases k4 : kd = 4
        · subst k4
          by_cases c1 : 0 ≤ r ∧ Flat0 x y z ∧ 4 ≤ n ∧ n ≤ 16
          · have c1t := eq_true c1
            by_cases c2 : r ≤ 274877906944
            · have c2' : ¬ 274877906944 < r := by omega
              obtain ⟨c3, ⟨rfl, rfl, rfl⟩, c5, c6⟩ := id c1
              have hs0 : Size3 0 0 0 := by decide
              simp (maxSteps := 10000000) [-loopA_succ, Tryz.f49, checkST, checkLL, kindsS, kin7LS, hE2, c1t, c2', hr, hx, hs0]
              simp only [good_bind, good_unblock]
              refine check_loop (c := c) (sh := [.int .i64 4, .int .i64 r, .int .i64 0, .int .i64 0, .int .i64 0, .slice 0 o1 n c]) hn hF hload (fun ts m l hfit hm hm1 hla hsm => ?_) (fun ts m l hfit hm hno => ?_) ?_ ?_ ?_
              · obtain ⟨g, rfl⟩ := fits_of hfit 0
                have hm4 : May4 r 0 0 0 n f := ⟨c3, ⟨rfl, rfl, rfl⟩, c5, c6, c2, hsm⟩
                have hlen1 : 1 < m.length := (List.getElem?_eq_some_iff.1 hm1).1
                have hlen : 0 < m.length := by omega
                have N0 : ∀ (h : 0 < m.length), m[0]'h = ⟨items, ty⟩ := fun h => Option.some.inj ((List.getElem?_eq_getElem h).symm.trans hm)
                have N1 : ∀ (h : 1 < m.length), m[1]'h = ⟨[.int .i64 4, .int .i64 r, .int .i64 0, .int .i64 0, .int .i64 0, .slice 0 o1 n c], 27⟩ := fun h => Option.some.inj ((List.getElem?_eq_getElem h).symm.trans hm1)
                obtain ⟨q, cc, rfl, hq⟩ : ∃ q cc, l = .slice q 0 n (n + cc) ∧ m[q]? = some ⟨[.arr .i64 ((n + cc) * 3) (cutL (n * 3) (nrF f))], 148⟩ := by
                  rcases hla with ⟨-, h⟩ | h
                  · omega
                  · exact h
                have hE3 : ∀ ts df, listE (St.mem ⟨ts, m, df⟩) (.slice q 0 n (n + cc)) = some (n, cutL (n * 3) (nrF f)) := fun ts df => hla.toE
                have hcf : (∀ j, j < n * 3 → PtN (cutL (n * 3) (nrF f) j)) = True := eq_true fun j hj => by rw [cutL_lt hj]; exact near_pt (hsm j hj)
                have n1 : 0 < n := by omega
                have n2 : n ≤ 256 := by omega
                have t4 := tk_four (f := cutL (n * 3) (nrF f)) (n := n)
                rw [four_congr (g := nrF f) fun j hj => cutL_lt hj] at t4
                have tl := (tk_le (cutL (n * 3) (nrF f)) n).2
                by_cases hf4 : Four (nrF f) n
                · have ck : ckI 4 r 0 0 0 n f = 0 := by unfold ckI; rw [if_pos rfl, if_pos hm4, if_pos hf4]
                  have t5 := t4.2 hf4
                  have t6 : ¬ ((tk (cutL (n * 3) (nrF f)) n).1 : Int) - 1 < 3 := by omega
                  simp (maxSteps := 10000000) [checkP, rankBS, rankLS, hE3, n1, n2, hcf, hlen, hlen1, N0, N1, t6, ck]
                  omega
                · have ck : ckI 4 r 0 0 0 n f = 8 := by unfold ckI; rw [if_pos rfl, if_pos hm4, if_neg hf4]
                  have t5 : ¬ (tk (cutL (n * 3) (nrF f)) n).1 = 4 := fun e => hf4 (t4.1 e)
                  have t6 : ((tk (cutL (n * 3) (nrF f)) n).1 : Int) - 1 < 3 := by omega
                  simp (maxSteps := 10000000) [checkP, rankBS, rankLS, hE3, n1, n2, hcf, hlen, hlen1, N0, N1, t6, ck]
                  omega
              · obtain ⟨g, rfl⟩ := fits_of hfit 0
                have ck : ckI 4 r 0 0 0 n f = 2 := ck_4no fun h => hno h.2.2.2.2.2
                have hlen : 0 < m.length := (List.getElem?_eq_some_iff.1 hm).1
                simp [checkP, hm, ck]
                omega
              · rfl
              · rfl
              · simp [checkP]
            · have c2' : 274877906944 < r := by omega
              have ck : ckI 4 r x y z n f = 2 := ck_4no fun h => c2 h.2.2.2.2.1
              simp (maxSteps := 10000000) [Tryz.f49, checkST, checkLL, kindsS, kin7LS, hE2, c1t, c2', hr, hx, hy, hz, ck]
          · have c1t := eq_false c1
            have ck : ckI 4 r x y z n f = 2 := ck_4no fun h => c1 ⟨h.1, h.2.1, h.2.2.1, h.2.2.2.1⟩
            simp (maxSteps := 10000000) [Tryz.f49, checkST, checkLL, kindsS, kin7LS, hE2, c1t, hr, hx, hy, hz, ck]
        · by_cases k0 : 1 ≤ kd ∧ kd ≤ 3
          · by_cases h0 : n = 0
            · subst h0
              rcases (show kd = 1 ∨ kd = 2 ∨ kd = 3 by omega) with rfl | rfl | rfl
              · have ck := ck_0 (kd := 1) (r := r) (x := x) (y := y) (z := z) (f := f) (by omega)
                by_cases m1 : May1 r x y z
                · by_cases m2 : r ≤ 274877906944
                  · have m4 : ¬ 274877906944 < r := by omega
                    by_cases m3 : Size3 x y z <;> simp (maxSteps := 10000000) [Tryz.f49, checkST, checkLL, kindsS, kin2LS, rankBS, hE2, hr, hx, hy, hz, m1, m2, m3, m4, ck, okN_1]
                  · have m4 : 274877906944 < r := by omega
                    simp (maxSteps := 10000000) [Tryz.f49, checkST, checkLL, kindsS, kin2LS, hE2, hr, hx, hy, hz, m1, m2, m4, ck, okN_1]
                · simp (maxSteps := 10000000) [Tryz.f49, checkST, checkLL, kindsS, kin2LS, hE2, hr, hx, hy, hz, m1, ck, okN_1]
              · have ck := ck_0 (kd := 2) (r := r) (x := x) (y := y) (z := z) (f := f) (by omega)
                by_cases m1 : May2 r x y z
                · by_cases m2 : r ≤ 274877906944
                  · have m4 : ¬ 274877906944 < r := by omega
                    by_cases m3 : Size3 x y z <;> simp (maxSteps := 10000000) [Tryz.f49, checkST, checkLL, kindsS, kin4LS, rankBS, hE2, hr, hx, hy, hz, m1, m2, m3, m4, ck, okN_2]
                  · have m4 : 274877906944 < r := by omega
                    simp (maxSteps := 10000000) [Tryz.f49, checkST, checkLL, kindsS, kin4LS, hE2, hr, hx, hy, hz, m1, m2, m4, ck, okN_2]
                · simp (maxSteps := 10000000) [Tryz.f49, checkST, checkLL, kindsS, kin4LS, hE2, hr, hx, hy, hz, m1, ck, okN_2]
              · have ck := ck_0 (kd := 3) (r := r) (x := x) (y := y) (z := z) (f := f) (by omega)
                by_cases m1 : May3 r x y z
                · by_cases m2 : r ≤ 274877906944
                  · have m4 : ¬ 274877906944 < r := by omega
                    by_cases m3 : Size3 x y z <;> simp (maxSteps := 10000000) [Tryz.f49, checkST, checkLL, kindsS, kin6LS, rankBS, hE2, hr, hx, hy, hz, m1, m2, m3, m4, ck, okN_3]
                  · have m4 : 274877906944 < r := by omega
                    simp (maxSteps := 10000000) [Tryz.f49, checkST, checkLL, kindsS, kin6LS, hE2, hr, hx, hy, hz, m1, m2, m4, ck, okN_3]
                · simp (maxSteps := 10000000) [Tryz.f49, checkST, checkLL, kindsS, kin6LS, hE2, hr, hx, hy, hz, m1, ck, okN_3]
            · have ck : ckI kd r x y z n f = 2 := ck_n k4 fun h => h0 h.2
              rcases (show kd = 1 ∨ kd = 2 ∨ kd = 3 by omega) with rfl | rfl | rfl <;>
                simp (maxSteps := 10000000) [Tryz.f49, checkST, checkLL, kindsS, kin2LS, kin4LS, kin6LS, hE2, h0, hr, hx, hy, hz, ck]
          · have ck : ckI kd r x y z n f = 2 := ck_n k4 fun h => okN_not (by omega) (by omega) (by omega) h.1
            by_cases k5 : kd < 1
            · simp (maxSteps := 10000000) [Tryz.f49, checkST, checkLL, kindsS, k5, ck]
            · have k6 : 5 ≤ kd := by omega
              simp (maxSteps := 10000000) [Tryz.f49, checkST, checkLL, kindsS, k5, k6, ck]
      · simp [*] at h
    · simp [*] at h
  · simp at h
end Go.X
