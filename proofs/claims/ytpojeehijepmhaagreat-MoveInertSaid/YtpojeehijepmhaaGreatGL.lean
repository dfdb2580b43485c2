/- The reference of shapes. -/
import Derived.Test.YtpojeehijepmhaaGreatJUH
import Derived.Test.YtpojeehijepmhaaGreatGK

section
namespace Go.X
open Go.Proofs
attribute [local irreducible] Good
theorem k123 {kd : Int} (h1 : 1 ≤ kd) (h2 : kd ≤ 4) (h3 : ¬ kd = 4) : kd = 1 ∨ kd = 2 ∨ kd = 3 := by omega
set_option maxHeartbeats 40000000 in
set_option maxRecDepth 100000 in
theorem r9_E3 {kd r x y z : Int} {l : AV} {m : List Blk} {b : Nat} {Q : Ex → St → Prop} (hm : m[b]? = some ⟨shI kd r x y z l, 27⟩) (hk : kd < 4)
    (hgo : ∀ ts, Fits (r9P b (some (.int .i64 0)) none none) ts → Q .ret ⟨ts, m, []⟩) {ts : List AV} (h0 : Fits (r9P b (some (.int .i64 0)) none none) ts) :
    Good (exec Tryz.T (stOf r9ST) (fun _ => none) 150 (tailC 1 (tailC 1 (tailC 1 (tailC 1 (tailC 1 r9B))))) ⟨ts, m, []⟩) Q := by
  obtain ⟨g, rfl⟩ := fits_of h0 0
  have lb : b < m.length := (List.getElem?_eq_some_iff.1 hm).1
  have Nb : ∀ h : b < m.length, m[b]'h = ⟨shI kd r x y z l, 27⟩ := fun h => Option.some.inj ((List.getElem?_eq_getElem h).symm.trans hm)
  simp (maxSteps := 10000000) [r9B, Tryz.f52, r9P, r9ST, lb, Nb, hk]
  exact hgo _ (by simp [r9P])
set_option maxHeartbeats 40000000 in
set_option maxRecDepth 100000 in
theorem r9_E4 {r x y z : Int} {m : List Blk} {b : Nat} {Q : Ex → St → Prop} (hm : m[b]? = some ⟨shI 4 r x y z .nilslice, 27⟩)
    (hgo : ∀ ts, Fits (r9P b (some (.int .i64 2)) none none) ts → Q .ret ⟨ts, m, []⟩) {ts : List AV} (h0 : Fits (r9P b (some (.int .i64 0)) none none) ts) :
    Good (exec Tryz.T (stOf r9ST) (fun _ => none) 150 (tailC 1 (tailC 1 (tailC 1 (tailC 1 (tailC 1 r9B))))) ⟨ts, m, []⟩) Q := by
  obtain ⟨g, rfl⟩ := fits_of h0 0
  have lb : b < m.length := (List.getElem?_eq_some_iff.1 hm).1
  have Nb : ∀ h : b < m.length, m[b]'h = ⟨shI 4 r x y z .nilslice, 27⟩ := fun h => Option.some.inj ((List.getElem?_eq_getElem h).symm.trans hm)
  simp (maxSteps := 10000000) [r9B, Tryz.f52, r9P, r9ST, lb, Nb]
  exact hgo _ (by simp [r9P])
set_option maxHeartbeats 40000000 in
set_option maxRecDepth 100000 in
theorem r9_E5 {r : Int} {items : List AV} {ty : TypeId} {o1 n c : Nat} {f : Nat → Int} (hn : n ≤ 100) (hF : ∀ j, j < n * 3 → InI (f j)) (c3 : 0 ≤ r) (c1 : SmN r)
    (hload : ∀ i, i < n → ∀ fs z q, loadB ⟨.struct fs, 3, z, q⟩ ⟨items, ty⟩ (o1 + i * 3) = some (.agg [.int .i64 (f (i * 3)), .int .i64 (f (i * 3 + 1)), .int .i64 (f (i * 3 + 2))]))
    {ts : List AV} (h0 : Fits (r9P 1 (some (.int .i64 0)) none none) ts) :
    Good (exec Tryz.T (stOf r9ST) (fun _ => none) 150 (tailC 1 (tailC 1 (tailC 1 (tailC 1 (tailC 1 r9B))))) ⟨ts, [⟨items, ty⟩, ⟨shI 4 r 0 0 0 (.slice 0 o1 n c), 27⟩], []⟩)
      (Ends Tryz.T [ResultVar.tmp 2] (fun v m' => Eqv v (.int .i64 (ckI 4 r 0 0 0 n f)) ∧ refs v = [] ∧ ¬ v = .undef ∧ 1 ≤ m'.length ∧ m'[0]? = some ⟨items, ty⟩) fun _ _ => False) := by
  obtain ⟨g, rfl⟩ := fits_of h0 0
  by_cases a4 : (n : Int) < 4
  · have ck : ckI 4 r 0 0 0 n f = 2 := ck_4no fun h => by have := h.2.2.1; omega
    simp (maxSteps := 10000000) [r9B, Tryz.f52, r9P, r9ST, a4, ck]
  · by_cases a5 : (16 : Int) < n
    · have ck : ckI 4 r 0 0 0 n f = 2 := ck_4no fun h => by have := h.2.2.2.1; omega
      simp (maxSteps := 10000000) [r9B, Tryz.f52, r9P, r9ST, a4, a5, ck]
    · have n1 : 0 < n := by omega
      have n2 : n ≤ 256 := by omega
      simp (maxSteps := 10000000) [-loopA_succ, r9B, Tryz.f52, r9P, r9ST, a4, a5]
      simp only [good_bind, good_unblock]
      refine r9_loop (kd := 4) (r := r) (x := 0) (y := 0) (z := 0) (c := c) hn hF hload (fun ts m l hfit hm hla hsm => ?_) (fun ts m hfit hm hno => ?_) ?_ ?_ ?_
      · obtain ⟨g, rfl⟩ := fits_of hfit 0
        have hm4 : May4 r 0 0 0 n f := ⟨c3, ⟨rfl, rfl, rfl⟩, by omega, by omega, c1.2, hsm⟩
        have hlen : 0 < m.length := (List.getElem?_eq_some_iff.1 hm).1
        have N0 : ∀ (h : 0 < m.length), m[0]'h = ⟨items, ty⟩ := fun h => Option.some.inj ((List.getElem?_eq_getElem h).symm.trans hm)
        obtain ⟨q, cc, rfl, hq⟩ : ∃ q cc, l = .slice q 0 n (n + cc) ∧ m[q]? = some ⟨[.arr .i64 ((n + cc) * 3) (cutL (n * 3) (nrF f))], 148⟩ := by
          rcases hla with ⟨-, h⟩ | h
          · omega
          · exact h
        have hE3 : ∀ ts df, listE (St.mem ⟨ts, m, df⟩) (.slice q 0 n (n + cc)) = some (n, cutL (n * 3) (nrF f)) := fun ts df => hla.toE
        have hcf : (∀ j, j < n * 3 → PtN (cutL (n * 3) (nrF f) j)) = True := eq_true fun j hj => by rw [cutL_lt hj]; exact near_pt (hsm j hj)
        have t4 := four_congr (f := cutL (n * 3) (nrF f)) (g := nrF f) (n := n) fun j hj => cutL_lt hj
        by_cases hf4 : Four (nrF f) n
        · have ck : ckI 4 r 0 0 0 n f = 0 := by unfold ckI; rw [if_pos rfl, if_pos hm4, if_pos hf4]
          simp (maxSteps := 10000000) [r9P, ofLS, hE3, n1, n2, hcf, hlen, N0, t4, hf4, ck]
          try omega
        · have ck : ckI 4 r 0 0 0 n f = 8 := by unfold ckI; rw [if_pos rfl, if_pos hm4, if_neg hf4]
          have t6 : ∀ k : Nat, (k : Int) % 3 < 3 := fun k => by omega
          simp (maxSteps := 10000000) [r9P, ofLS, hE3, n1, n2, hcf, hlen, N0, t4, hf4, ck, t6]
          try omega
      · obtain ⟨g, rfl⟩ := fits_of hfit 0
        have ck : ckI 4 r 0 0 0 n f = 2 := ck_4no fun h => hno h.2.2.2.2.2
        have hlen : 0 < m.length := (List.getElem?_eq_some_iff.1 hm).1
        simp [r9P, hm, ck]
        try omega
      · rfl
      · rfl
      · simp [r9P]
theorem r9_all {kd r x y z : Int} {l : AV} {m : List Blk} {b n : Nat} {f : Nat → Int} {Q : Ex → St → Prop} (hm : m[b]? = some ⟨shI kd r x y z l, 27⟩) (hr : InI r) (hx : InI x) (hy : InI y) (hz : InI z) (hl : (l = .nilslice ∧ n = 0) ∨ ∃ p o c, l = .slice p o n c ∧ n ≤ c)
    (hret : ∀ ts, Fits (r9P b (some (.int .i64 (ckI kd r x y z n f))) none none) ts → Q .ret ⟨ts, m, []⟩)
    (hgo : ∀ ts, kd = 4 → 0 ≤ r → SmN r → x = 0 → y = 0 → z = 0 → Fits (r9P b (some (.int .i64 0)) none none) ts → Good (exec Tryz.T (stOf r9ST) (fun _ => none) 150 (tailC 1 (tailC 1 (tailC 1 (tailC 1 (tailC 1 r9B))))) ⟨ts, m, []⟩) Q)
    {ts : List AV} (h0 : Fits (r9P b (some (.int .i64 0)) none none) ts) : Good (exec Tryz.T (stOf r9ST) (fun _ => none) 150 (tailC 1 r9B) ⟨ts, m, []⟩) Q := by
  refine r9_A rfl hm hr hx hy hz (fun ts hf hb => hret ts ?_) (fun ts hf hA => r9_B rfl hm hr hx hy hz hl (fun ts hf hb => hret ts ?_) (fun ts hf hB => r9_C rfl hm hr hx hy hz (fun ts hf hb => hret ts ?_) (fun ts hf hC => r9_D rfl hm hr hx hy hz (fun ts hf hb => hret ts ?_) (fun ts hf hD => ?_) hf) hf) hf) h0
  · have ck : ckI kd r x y z n f = 2 := by
      by_cases h1 : 0 ≤ r ∧ r ≤ 274877906944 ∧ Size3 x y z
      · exact ck_n (by rintro rfl; exact hb ⟨by omega, by omega, h1.1, ⟨by omega, h1.2.1⟩, h1.2.2⟩) fun h => hb (by
          have := (may_in h.1).1
          exact ⟨by omega, by omega, h1.1, ⟨by omega, h1.2.1⟩, h1.2.2⟩)
      · exact ck_bad h1
    rw [ck]; exact hf
  · have ck : ckI kd r x y z n f = 2 := by
      by_cases h4 : kd = 4
      · exact absurd ⟨by omega, by omega⟩ hb
      · refine ck_n h4 fun h => hb ⟨fun h2 => ?_, fun h3 => by omega⟩
        rcases (show kd = 1 ∨ kd = 2 by omega) with rfl | rfl
        · have := (okN_1.1 h.1).1.1; omega
        · have := (okN_2.1 h.1).1.1; omega
    rw [ck]; exact hf
  · have ck : ckI kd r x y z n f = 2 := by
      refine ck_n (by rintro rfl; exact hb ⟨by omega, by omega⟩) fun h => hb ?_
      have := (may_in h.1).1
      exact ⟨by omega, by omega⟩
    rw [ck]; exact hf
  · have ck : ckI kd r x y z n f = 2 := by
      by_cases h4 : kd = 4
      · subst h4; exact ck_4no fun h => hb fun _ => h.2.1
      · refine ck_n h4 fun h => hb ?_
        have := (may_in h.1).1
        omega
    rw [ck]; exact hf
  · by_cases h4 : kd = 4
    · exact hgo ts h4 hA.2.2.1 hA.2.2.2.1 (hD (.inr h4)).1 (hD (.inr h4)).2.1 (hD (.inr h4)).2.2 hf
    · refine r9_E3 hm (by omega) (fun ts hf => hret ts ?_) hf
      have h0 : n = 0 := by omega
      subst h0
      have ok : OkN kd r x y z := by
        rcases k123 hA.1 hA.2.1 h4 with rfl | rfl | rfl
        · obtain ⟨q1, q2, q3⟩ := hD (.inl rfl)
          exact okN_1.2 ⟨⟨by omega, q1, q2, q3⟩, hA.2.2.2.1.2, hA.2.2.2.2⟩
        · obtain ⟨q1, q2, q3⟩ := hC.1 rfl
          exact okN_2.2 ⟨⟨by omega, q1, q2, q3⟩, hA.2.2.2.1.2, hA.2.2.2.2⟩
        · obtain ⟨q1, q2, q3⟩ := hC.2 rfl
          exact okN_3.2 ⟨⟨by omega, min3_le.2 ⟨q1, q2, q3⟩⟩, hA.2.2.2.1.2, hA.2.2.2.2⟩
      rw [ck_good ok]; exact hf
set_option maxHeartbeats 40000000 in
set_option maxRecDepth 100000 in
theorem r9check_ok : SumOk Tryz.prog 52 checkBS := by
  refine sum_read (L := fun _ => none) (n := 150) (S := stOf r9ST) drawS Tryz.T_ok (stOf_ok (by simp [r9ST, r9fits_ok, r9fit_ok, r6Round_ok, ofL_ok])) Tryz.func52 rfl (by kernel_rfl) (by kernel_rfl) ?_
  intro args env nxt h
  unfold checkBS at h ⊢
  split at h
  · rename_i kd r x y z l
    split at h
    · rename_i n f hl
      split at h
      · rename_i hc
        simp only [if_pos hc]
        obtain ⟨hkd, hr, hx, hy, hz, hn, hF⟩ := id hc
        rcases laid_shape (fun l => [.agg [.int .i64 kd, .int .i64 r, .int .i64 x, .int .i64 y, .int .i64 z, l]]) hl (fun _ _ => rfl) (fun l => by simp) with ⟨rfl, rfl, rfl, hlaid⟩ | ⟨p, o1, c, items, ty, rfl, hlaid, hnc, hr', -, hE, hE2, hload⟩
        · refine ⟨_, _, _, .int .i64 (ckI kd r x y z 0 fun _ => 0), hlaid, rfl, rfl, rfl, ?_⟩
          show Good (exec Tryz.T (stOf r9ST) (fun _ => none) 150 r9B _) _
          refine good_cut 1 rfl ?_
          generalize h1 : tailC 1 r9B = tl
          simp [r9B, Tryz.f52]
          subst h1
          refine r9_all (b := 0) (n := 0) (f := fun _ => 0) (l := .nilslice) (kd := kd) (r := r) (x := x) (y := y) (z := z) rfl hr hx hy hz (.inl ⟨rfl, rfl⟩) (fun ts hf => ?_) (fun ts h4 h5 h6 h7 h8 h9 hf => ?_) ?_
          · obtain ⟨g, rfl⟩ := fits_of hf 0
            simp [r9P]
          · subst h4
            refine r9_E4 rfl (fun ts hf => ?_) hf
            obtain ⟨g, rfl⟩ := fits_of hf 0
            have ck : ckI 4 r x y z 0 (fun _ => 0) = 2 := ck_4no fun h => by have := h.2.2.1; omega
            simp [r9P, ck]
          · simp [r9P]
        · refine ⟨_, _, _, .int .i64 (ckI kd r x y z n f), hlaid, rfl, rfl, rfl, ?_⟩
          show Good (exec Tryz.T (stOf r9ST) (fun _ => none) 150 r9B _) _
          refine good_cut 1 rfl ?_
          generalize h1 : tailC 1 r9B = tl
          simp [r9B, Tryz.f52]
          subst h1
          refine r9_all (b := 1) (n := n) (f := f) (l := .slice 0 o1 n c) (kd := kd) (r := r) (x := x) (y := y) (z := z) rfl hr hx hy hz (.inr ⟨0, o1, c, rfl, hnc⟩) (fun ts hf => ?_) (fun ts h4 h5 h6 h7 h8 h9 hf => ?_) ?_
          · obtain ⟨g, rfl⟩ := fits_of hf 0
            simp [r9P]
          · subst h4 h7 h8 h9
            exact r9_E5 (c := c) hn hF h5 h6 hload hf
          · simp [r9P]
      · simp [*] at h
    · simp [*] at h
  · simp at h
end Go.X
end

section
namespace Go.X
open Go.Proofs
attribute [local irreducible] Good
theorem vb_8 {x y z : Int} {ty : TypeId} : (⟨[.arr .i64 24 fun i => ([-x, -y, -z, x, -y, -z, -x, y, -z, x, y, -z, -x, -y, z, x, -y, z, -x, y, z, x, y, z] : List Int)[i]?.getD 0], ty⟩ : Blk) = ⟨[.arr .i64 ((8 + 0) * 3) (cutL (8 * 3) (cornF x y z))], ty⟩ := by
  have e : (fun i => ([-x, -y, -z, x, -y, -z, -x, y, -z, x, y, -z, -x, -y, z, x, -y, z, -x, y, z, x, y, z] : List Int)[i]?.getD 0) = cutL (8 * 3) (cornF x y z) := by
    funext i
    unfold cutL
    by_cases hi : i < 8 * 3
    · rw [if_pos hi]
      have : i = 0 ∨ i = 1 ∨ i = 2 ∨ i = 3 ∨ i = 4 ∨ i = 5 ∨ i = 6 ∨ i = 7 ∨ i = 8 ∨ i = 9 ∨ i = 10 ∨ i = 11 ∨ i = 12 ∨ i = 13 ∨ i = 14 ∨ i = 15 ∨ i = 16 ∨ i = 17 ∨ i = 18 ∨ i = 19 ∨ i = 20 ∨ i = 21 ∨ i = 22 ∨ i = 23 := by omega
      rcases this with rfl | rfl | rfl | rfl | rfl | rfl | rfl | rfl | rfl | rfl | rfl | rfl | rfl | rfl | rfl | rfl | rfl | rfl | rfl | rfl | rfl | rfl | rfl | rfl <;> rfl
    · rw [if_neg hi, List.getElem?_eq_none (by simp; omega)]; rfl
  rw [e]
set_option maxHeartbeats 400000000 in
set_option maxRecDepth 100000 in
theorem r9core_ok : SumOk Tryz.prog 93 coreBS := by
  refine sum_mem (L := fun _ => none) (n := 1) (S := stOf [(52, checkBS)]) drawS Tryz.T_ok (stOf_ok (by simp [r9check_ok])) Tryz.func93 rfl (by kernel_rfl) (by kernel_rfl) ?_
  intro args env nxt h
  unfold coreBS at h ⊢
  split at h
  · rename_i kd r x y z l
    split at h
    · rename_i n f hl
      split at h
      · rename_i hc
        simp only [if_pos hc]
        obtain ⟨hkd, hr, hx, hy, hz, hn, hF⟩ := id hc
        rcases laid_shape (fun l => [.agg [.int .i64 kd, .int .i64 r, .int .i64 x, .int .i64 y, .int .i64 z, l]]) hl (fun _ _ => rfl) (fun l => by simp) with ⟨rfl, rfl, rfl, hlaid⟩ | ⟨p, o1, c, items, ty, rfl, hlaid, hnc, hr', ⟨o, F, hrow, hf⟩, hE, hE2, hload⟩
        · refine ⟨_, _, _, hlaid, ?_⟩
          have hct := eq_true hc
          by_cases ok : ckI kd r x y z 0 (fun _ => 0) = 0
          · obtain ⟨r0, r1, hs, -⟩ := ck_ok ok
            have sn := size_neg hs
            have wx : IntKind.i64.wrap (-x) = -x := wrap_i64_in sn.1.1 sn.1.2
            have wy : IntKind.i64.wrap (-y) = -y := wrap_i64_in sn.2.1.1 sn.2.1.2
            have wz : IntKind.i64.wrap (-z) = -z := wrap_i64_in sn.2.2.1.1 sn.2.2.1.2
            by_cases k4 : kd = 4
            · subst k4
              have hn4 : 0 < 0 := by
                unfold ckI at ok
                rw [if_pos rfl] at ok
                split at ok
                · rename_i hm; have := hm.2.2.1; omega
                · omega
              omega
            · have e1 : coN kd 0 = corN kd := by simp [coN, k4]
              have e2 : coF kd x y z (fun _ => 0) = corF kd x y z := by simp [coF, k4]
              have hk : kd = 1 ∨ kd = 2 ∨ kd = 3 := by
                unfold ckI at ok
                rw [if_neg k4] at ok
                split at ok
                · rename_i hm
                  have := (may_in hm.1).1
                  omega
                · omega
              rcases hk with rfl | rfl | rfl
              · have e3 : corF 1 x y z = fun _ => 0 := by funext j; simp [corF]
                have c1 : corN 1 = 1 := by simp [corN]
                simp [Tryz.f93, checkBS, hct, ok, e1, e2, e3, c1]
                rw [vb_1 (F := fun _ => 0) rfl rfl rfl]
                exact ⟨[1], none, .inr ⟨_, ⟨0, rfl⟩, told_one (by simp) rfl (by simp) (by simp) (by simp [AV.ren, renL, glob]) (by simp) (by simp)⟩⟩
              · have e3 : corF 2 x y z = corF 2 0 0 z := by funext j; simp [corF]
                have c1 : corN 2 = 2 := by simp [corN]
                simp [Tryz.f93, checkBS, hct, ok, wz, e1, e2, e3, c1]
                rw [vb_2 (F := corF 2 0 0 z) (by simp [corF]) (by simp [corF]) (by simp [corF]) (by simp [corF]) (by simp [corF]) (by simp [corF])]
                exact ⟨[2], none, .inr ⟨_, ⟨0, rfl⟩, told_one (by simp) rfl (by simp) (by simp) (by simp [AV.ren, renL, glob]) (by simp) (by simp)⟩⟩
              · have e3 : corF 3 x y z = cornF x y z := by funext j; simp [corF]
                have c1 : corN 3 = 8 := by simp [corN]
                simp (maxSteps := 10000000) [Tryz.f93, checkBS, hct, ok, wx, wy, wz, e1, e2, e3, c1]
                rw [vb_8]
                exact ⟨[2], none, .inr ⟨_, ⟨0, rfl⟩, told_one (by simp) rfl (by simp) (by simp) (by simp [AV.ren, renL, glob]) (by simp) (by simp)⟩⟩
          · simp [Tryz.f93, checkBS, hct, ok]
            exact ⟨[], none, told_none (by simp) (by simp) (by simp) (by simp)⟩
        · refine ⟨_, _, _, hlaid, ?_⟩
          have hct := eq_true hc
          by_cases ok : ckI kd r x y z n f = 0
          · obtain ⟨r0, r1, hs, -⟩ := ck_ok ok
            have sn := size_neg hs
            have wx : IntKind.i64.wrap (-x) = -x := wrap_i64_in sn.1.1 sn.1.2
            have wy : IntKind.i64.wrap (-y) = -y := wrap_i64_in sn.2.1.1 sn.2.1.2
            have wz : IntKind.i64.wrap (-z) = -z := wrap_i64_in sn.2.2.1.1 sn.2.2.1.2
            by_cases k4 : kd = 4
            · subst k4
              have hn4 : 0 < n := by
                unfold ckI at ok
                rw [if_pos rfl] at ok
                split at ok
                · rename_i hm; have := hm.2.2.1; omega
                · omega
              have e1 : coN 4 n = n := by simp [coN]
              have e2 : coF 4 x y z f = f := by simp [coF]
              have hn5 : n ≤ 1048576 := by omega
              simp [Tryz.f93, checkBS, appA, hE, hrow, hct, ok, hn4, hn5, e1, e2]
              intro k
              exact ⟨[4], none, .inr ⟨_, ⟨k, rfl⟩, told_row (by omega) (by simp [cat_no, hf]) rfl (by simp) (by simp [AV.ren, renL, glob]) (by simp) (by simp) hr'⟩⟩
            · have e1 : coN kd n = corN kd := by simp [coN, k4]
              have e2 : coF kd x y z f = corF kd x y z := by simp [coF, k4]
              have hk : kd = 1 ∨ kd = 2 ∨ kd = 3 := by
                unfold ckI at ok
                rw [if_neg k4] at ok
                split at ok
                · rename_i hm
                  have := (may_in hm.1).1
                  omega
                · omega
              rcases hk with rfl | rfl | rfl
              · have e3 : corF 1 x y z = fun _ => 0 := by funext j; simp [corF]
                have c1 : corN 1 = 1 := by simp [corN]
                simp [Tryz.f93, checkBS, hE, hct, ok, e1, e2, e3, c1]
                rw [vb_1 (F := fun _ => 0) rfl rfl rfl]
                exact ⟨[2], none, .inr ⟨_, ⟨0, rfl⟩, told_row (by omega) rfl rfl (by simp) (by simp [AV.ren, renL, glob]) (by simp) (by simp) hr'⟩⟩
              · have e3 : corF 2 x y z = corF 2 0 0 z := by funext j; simp [corF]
                have c1 : corN 2 = 2 := by simp [corN]
                simp [Tryz.f93, checkBS, hE, hct, ok, wz, e1, e2, e3, c1]
                rw [vb_2 (F := corF 2 0 0 z) (by simp [corF]) (by simp [corF]) (by simp [corF]) (by simp [corF]) (by simp [corF]) (by simp [corF])]
                exact ⟨[3], none, .inr ⟨_, ⟨0, rfl⟩, told_row (by omega) rfl rfl (by simp) (by simp [AV.ren, renL, glob]) (by simp) (by simp) hr'⟩⟩
              · have e3 : corF 3 x y z = cornF x y z := by funext j; simp [corF]
                have c1 : corN 3 = 8 := by simp [corN]
                simp (maxSteps := 10000000) [Tryz.f93, checkBS, hE, hct, ok, wx, wy, wz, e1, e2, e3, c1]
                rw [vb_8]
                exact ⟨[3], none, .inr ⟨_, ⟨0, rfl⟩, told_row (by omega) rfl rfl (by simp) (by simp [AV.ren, renL, glob]) (by simp) (by simp) hr'⟩⟩
          · simp [Tryz.f93, checkBS, hE, hct, ok]
            exact ⟨[], none, told_none (by simp) (by simp) (by simp) (by simp) (fun i hi => by
              have : i = 0 := by simpa using hi
              subst this
              exact hr')⟩
      · simp [*] at h
    · simp [*] at h
  · simp at h
end Go.X
end

section
namespace Go.X
open Go.Proofs
attribute [local irreducible] Good
noncomputable def r9hST : List (FuncId × Sum) := [(93, coreBS), (94, pureS r9sizeS)]
def r9hL (i : Nat) : Option DM := if i = 8 then some (.quiet 10) else if i = 9 then some (.quiet 10) else if i = 10 then some (.quiet 10) else none
noncomputable def r9hLoop : Code := match Tryz.f43.body with | some (.seq _ (.seq _ (.seq _ (.seq _ (.seq (.seq _ (.block _ (.loop c))) _))))) => c | _ => .skip
noncomputable def r9hP (a b : AV) (p q N k : Nat) (i : Option AV) : List (Option AV) := [none, some a, some b, none, some (.slice p 0 N (N + k)), none, some (.ptr q 0), i, none, none, none, none, none, none, none, none, none, none, none, none, none, none, none, none, none, none, none, none, none, none, none, none, none, none, none, none, none, none, none, none, none, none, none, none, none, none, none, none, none, none, none, none, none, none, none, none, none, none, none, none, none, none, none, none, none, none, none, none, none]
theorem modify_ne {m : List Blk} {q j : Nat} {f : Blk → Blk} (h : ¬ q = j) : (m.modify q f)[j]? = m[j]? := by
  rw [List.getElem?_modify]
  simp only [h, if_false]
  cases m[j]? <;> rfl
theorem absI_mx {h a : Int} : (if h < absI a then absI a else h) = max h (max a (-a)) := by unfold absI; (repeat' split) <;> omega
set_option maxHeartbeats 40000000 in
set_option maxRecDepth 100000 in
theorem r9h_loop {a b : AV} {p q N k : Nat} {F : Nat → Int} {mi : List Blk} (hN : N ≤ 100) (hF : ∀ j, j < N * 3 → SmN (F j)) (hpq : p < q) (_hql : q < mi.length) {Q : Ex → St → Prop}
    (hQ : ∀ (ts : List AV) (m : List Blk), Fits (r9hP a b p q N k none) ts → (∀ j, j < q → m[j]? = mi[j]?) → m[q]? = some (V3B (mxI F 0 N) (mxI F 1 N) (mxI F 2 N)) → Q (.exit 0) ⟨ts, m, []⟩)
    {ts : List AV} (hp : mi[p]? = some (VB N k F)) (hq : mi[q]? = some (V3B 0 0 0)) (h0 : Fits (r9hP a b p q N k (some (.int .i64 0))) ts) :
    Good (loopA (exec Tryz.T (stOf r9hST) r9hL 150 r9hLoop) 150 ⟨ts, mi, []⟩) Q := by
  refine loop_rule (fun x s => ∃ i : Nat, i + x = N ∧ Fits (r9hP a b p q N k (some (.int .i64 i))) s.ts ∧ (∀ j, j < q → s.m[j]? = mi[j]?) ∧ s.m[q]? = some (V3B (mxI F 0 i) (mxI F 1 i) (mxI F 2 i)) ∧ s.df = []) ?_ 150 N _ (by omega)
    ⟨0, by omega, h0, fun _ _ => rfl, hq, rfl⟩
  rintro x ⟨ts, m, df⟩ ⟨i, hix, hfit, hm, hmq, hd⟩
  simp only at hfit hm hmq hd
  subst hd
  obtain ⟨g, rfl⟩ := fits_of hfit 0
  by_cases hi : i < N
  · have hi1 : (i : Int) < N := by omega
    have w1 : IntKind.i64.wrap ((i : Int) + 1) = i + 1 := wrap_i64_in (by omega) (by omega)
    have hmp : m[p]? = some (VB N k F) := by rw [hm p hpq]; exact hp
    obtain ⟨⟨lp, Np⟩, l0⟩ := load_VB hmp hi
    have lq : q < m.length := (List.getElem?_eq_some_iff.1 hmq).1
    have Nq : m[q]'lq = V3B (mxI F 0 i) (mxI F 1 i) (mxI F 2 i) := (List.getElem?_eq_some_iff.1 hmq).2
    have npq : ¬ q = p := by omega
    have p0 : SmN (F (i * 3)) := hF _ (by omega)
    have p1 : SmN (F (i * 3 + 1)) := hF _ (by omega)
    have p2 : SmN (F (i * 3 + 2)) := hF _ (by omega)
    have v0 : InI (F (i * 3)) := sm_in p0
    have v1 : InI (F (i * 3 + 1)) := sm_in p1
    have v2 : InI (F (i * 3 + 2)) := sm_in p2
    have u0 : InI (-F (i * 3)) := by unfold SmN at p0; unfold InI; omega
    have u1 : InI (-F (i * 3 + 1)) := by unfold SmN at p1; unfold InI; omega
    have u2 : InI (-F (i * 3 + 2)) := by unfold SmN at p2; unfold InI; omega
    have e0 : (if mxI F 0 i < absI (F (i * 3)) then absI (F (i * 3)) else mxI F 0 i) = mxI F 0 (i + 1) := absI_mx
    have e1 : (if mxI F 1 i < absI (F (i * 3 + 1)) then absI (F (i * 3 + 1)) else mxI F 1 i) = mxI F 1 (i + 1) := absI_mx
    have e2 : (if mxI F 2 i < absI (F (i * 3 + 2)) then absI (F (i * 3 + 2)) else mxI F 2 i) = mxI F 2 (i + 1) := absI_mx
    have k0 : i * 3 < (N + k) * 3 := by omega
    have k1 : i * 3 + 1 < (N + k) * 3 := by omega
    have k2 : i * 3 + 2 < (N + k) * 3 := by omega
    have c0 : cutL (N * 3) F (i * 3) = F (i * 3) := cutL_lt (by omega)
    have c1 : cutL (N * 3) F (i * 3 + 1) = F (i * 3 + 1) := cutL_lt (by omega)
    have c2 : cutL (N * 3) F (i * 3 + 2) = F (i * 3 + 2) := cutL_lt (by omega)
    simp (maxSteps := 10000000) [r9hLoop, r9hP, r9hST, r9hL, Tryz.f43, hi1, w1, lp, Np, lq, Nq, npq, v0, v1, v2, u0, u1, u2, e0, e1, e2, k0, k1, k2, c0, c1, c2]
    exact ⟨x - 1, by omega, i + 1, by omega, by omega, fun j hj => by
      have hqj : ¬ q = j := by omega
      rw [modify_ne hqj, modify_ne hqj, modify_ne hqj]; exact hm j hj, rfl, rfl, rfl⟩
  · have : i = N := by omega
    subst this
    simp [r9hLoop, r9hP, Tryz.f43]
    exact hQ _ _ (by simp [r9hP]) hm hmq
set_option maxHeartbeats 400000000 in
set_option maxRecDepth 100000 in
theorem r9half_ok : SumOk Tryz.prog 43 halfBS := by
  refine sum_read (L := r9hL) (n := 150) (S := stOf r9hST) drawS Tryz.T_ok (stOf_ok (by simp [r9hST, r9core_ok, r9size_ok])) Tryz.func43 rfl (by kernel_rfl) (by kernel_rfl) ?_
  intro args env nxt h
  unfold halfBS at h ⊢
  split at h
  · rename_i kd r x y z l
    split at h
    · rename_i n f hl
      split at h
      · rename_i hc
        simp only [if_pos hc]
        obtain ⟨hkd, hr, hx, hy, hz, hn, hF⟩ := id hc
        rcases laid_shape (fun l => [.agg [.int .i64 kd, .int .i64 r, .int .i64 x, .int .i64 y, .int .i64 z, l]]) hl (fun _ _ => rfl) (fun l => by simp) with ⟨rfl, rfl, rfl, hlaid⟩ | ⟨p, o1, c, items, ty, rfl, hlaid, hnc, hr', ⟨o, F, hrow, hf⟩, hE, hE2, hload⟩
        · refine ⟨_, _, _, if ckI kd r x y z 0 (fun _ => 0) = 0 then .tup [.agg [.int .i64 (mxI (coF kd x y z (fun _ => 0)) 0 (coN kd 0) + r), .int .i64 (mxI (coF kd x y z (fun _ => 0)) 1 (coN kd 0) + r), .int .i64 (mxI (coF kd x y z (fun _ => 0)) 2 (coN kd 0) + r)], .int .i64 0] else .tup [.agg [.int .i64 0, .int .i64 0, .int .i64 0], .int .i64 (ckI kd r x y z 0 (fun _ => 0))], hlaid, rfl, by split <;> rfl, by split <;> rfl, ?_⟩
          have hct := eq_true hc
          by_cases ok : ckI kd r x y z 0 (fun _ => 0) = 0
          · obtain ⟨r0, r1, hs, M1, M2, hsm⟩ := ck_ok ok
            simp [-loopA_succ, Tryz.f43, r9hST, coreBS, hct, ok]
            intro k
            simp only [good_bind, good_unblock]
            refine r9h_loop (a := .ptr 0 0) (b := .ptr 1 0) (p := 2) (q := 3) (N := coN kd 0) (k := k) (F := coF kd x y z (fun _ => 0)) (by omega) hsm (by omega) (by simp) (fun ts m hfit hm hmq => ?_) ?_ ?_ ?_
            · obtain ⟨g, rfl⟩ := fits_of hfit 0
              have lq : 3 < m.length := (List.getElem?_eq_some_iff.1 hmq).1
              have Nq : ∀ (h : 3 < m.length), m[3]'h = _ := fun h => Option.some.inj ((List.getElem?_eq_getElem h).symm.trans hmq)
              have m0 : m[0]? = some (⟨[.int .i64 kd, .int .i64 r, .int .i64 x, .int .i64 y, .int .i64 z, .nilslice], 27⟩) := hm 0 (by omega)
              have l0 : 0 < m.length := by omega
              have N0 : ∀ (h : 0 < m.length), m[0]'h = _ := fun h => Option.some.inj ((List.getElem?_eq_getElem h).symm.trans m0)
              have m1 : m[1]? = some (V3B 0 0 0) := hm 1 (by omega)
              have l1 : 1 < m.length := by omega
              have N1 : ∀ (h : 1 < m.length), m[1]'h = _ := fun h => Option.some.inj ((List.getElem?_eq_getElem h).symm.trans m1)
              have b0 := mxI_bd (F := coF kd x y z (fun _ => 0)) (c := 0) (by decide) hsm
              have w0 : IntKind.i64.wrap (mxI (coF kd x y z (fun _ => 0)) 0 (coN kd 0) + r) = mxI (coF kd x y z (fun _ => 0)) 0 (coN kd 0) + r := wrap_i64_in (by omega) (by omega)
              have b1 := mxI_bd (F := coF kd x y z (fun _ => 0)) (c := 1) (by decide) hsm
              have w1 : IntKind.i64.wrap (mxI (coF kd x y z (fun _ => 0)) 1 (coN kd 0) + r) = mxI (coF kd x y z (fun _ => 0)) 1 (coN kd 0) + r := wrap_i64_in (by omega) (by omega)
              have b2 := mxI_bd (F := coF kd x y z (fun _ => 0)) (c := 2) (by decide) hsm
              have w2 : IntKind.i64.wrap (mxI (coF kd x y z (fun _ => 0)) 2 (coN kd 0) + r) = mxI (coF kd x y z (fun _ => 0)) 2 (coN kd 0) + r := wrap_i64_in (by omega) (by omega)
              simp [r9hP, lq, Nq, l0, N0, l1, N1, w0, w1, w2]
              try omega
            · rfl
            · rfl
            · simp [r9hP]
          · simp [Tryz.f43, r9hST, coreBS, hct, ok]
        · refine ⟨_, _, _, if ckI kd r x y z n f = 0 then .tup [.agg [.int .i64 (mxI (coF kd x y z f) 0 (coN kd n) + r), .int .i64 (mxI (coF kd x y z f) 1 (coN kd n) + r), .int .i64 (mxI (coF kd x y z f) 2 (coN kd n) + r)], .int .i64 0] else .tup [.agg [.int .i64 0, .int .i64 0, .int .i64 0], .int .i64 (ckI kd r x y z n f)], hlaid, rfl, by split <;> rfl, by split <;> rfl, ?_⟩
          have hct := eq_true hc
          by_cases ok : ckI kd r x y z n f = 0
          · obtain ⟨r0, r1, hs, M1, M2, hsm⟩ := ck_ok ok
            simp [-loopA_succ, Tryz.f43, r9hST, coreBS, hE, hct, ok]
            intro k
            simp only [good_bind, good_unblock]
            refine r9h_loop (a := .ptr 1 0) (b := .ptr 2 0) (p := 3) (q := 4) (N := coN kd n) (k := k) (F := coF kd x y z f) (by omega) hsm (by omega) (by simp) (fun ts m hfit hm hmq => ?_) ?_ ?_ ?_
            · obtain ⟨g, rfl⟩ := fits_of hfit 0
              have lq : 4 < m.length := (List.getElem?_eq_some_iff.1 hmq).1
              have Nq : ∀ (h : 4 < m.length), m[4]'h = _ := fun h => Option.some.inj ((List.getElem?_eq_getElem h).symm.trans hmq)
              have m0 : m[0]? = some (⟨items, ty⟩) := hm 0 (by omega)
              have l0 : 0 < m.length := by omega
              have N0 : ∀ (h : 0 < m.length), m[0]'h = _ := fun h => Option.some.inj ((List.getElem?_eq_getElem h).symm.trans m0)
              have m1 : m[1]? = some (⟨[.int .i64 kd, .int .i64 r, .int .i64 x, .int .i64 y, .int .i64 z, .slice 0 o1 n c], 27⟩) := hm 1 (by omega)
              have l1 : 1 < m.length := by omega
              have N1 : ∀ (h : 1 < m.length), m[1]'h = _ := fun h => Option.some.inj ((List.getElem?_eq_getElem h).symm.trans m1)
              have m2 : m[2]? = some (V3B 0 0 0) := hm 2 (by omega)
              have l2 : 2 < m.length := by omega
              have N2 : ∀ (h : 2 < m.length), m[2]'h = _ := fun h => Option.some.inj ((List.getElem?_eq_getElem h).symm.trans m2)
              have b0 := mxI_bd (F := coF kd x y z f) (c := 0) (by decide) hsm
              have w0 : IntKind.i64.wrap (mxI (coF kd x y z f) 0 (coN kd n) + r) = mxI (coF kd x y z f) 0 (coN kd n) + r := wrap_i64_in (by omega) (by omega)
              have b1 := mxI_bd (F := coF kd x y z f) (c := 1) (by decide) hsm
              have w1 : IntKind.i64.wrap (mxI (coF kd x y z f) 1 (coN kd n) + r) = mxI (coF kd x y z f) 1 (coN kd n) + r := wrap_i64_in (by omega) (by omega)
              have b2 := mxI_bd (F := coF kd x y z f) (c := 2) (by decide) hsm
              have w2 : IntKind.i64.wrap (mxI (coF kd x y z f) 2 (coN kd n) + r) = mxI (coF kd x y z f) 2 (coN kd n) + r := wrap_i64_in (by omega) (by omega)
              simp [r9hP, lq, Nq, l0, N0, l1, N1, l2, N2, w0, w1, w2]
              try omega
            · rfl
            · rfl
            · simp [r9hP]
          · simp [Tryz.f43, r9hST, coreBS, hE, hct, ok]
      · simp [*] at h
    · simp [*] at h
  · simp at h
end Go.X
end
