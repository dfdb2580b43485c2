/- The reference of shapes. -/
import Derived.Test.YtgejbdalmjopiaaGreatJUH
import Derived.Test.YtgejbdalmjopiaaGreatGK

section
namespace Go.X
open Go.Proofs
attribute [local irreducible] Good
theorem k123 {kd : Int} (h1 : 1 ≤ kd) (h2 : kd ≤ 4) (h3 : ¬ kd = 4) : kd = 1 ∨ kd = 2 ∨ kd = 3 := by omega
set_option maxHeartbeats 40000000 in
set_option maxRecDepth 100000 in
theorem r9_E3 {kd r x y z : Int} {l : AV} {m : List Blk} {b : Nat} {Q : Ex → St → Prop} (hm : m[b]? = some ⟨shI kd r x y z l, 27⟩) (hk : kd < 4)
    (hgo : ∀ ts, Fits (r9P b (some (.int .i64 0)) none none) ts → Q .ret ⟨ts, m, []⟩) {ts : List AV} (h0 : Fits (r9P b (some (.int .i64 0)) none none) ts) :
    Good (exec Tryz.T (stOf r9ST) (fun _ => none) 150 (tailC 1 (tailC 1 (tailC 1 (tailC 1 (tailC 1 r9B))))) ⟨ts, m, []⟩) Q := by
  obtain ⟨g, rfl⟩ := fits_of h0 0
  have lb : b < m.length := (List.getElem?_eq_some_iff.1 hm).1
  have Nb : ∀ h : b < m.length, m[b]'h = ⟨shI kd r x y z l, 27⟩ := fun h => Option.some.inj ((List.getElem?_eq_getElem h).symm.trans hm)
  simp (maxSteps := 10000000) [r9B, Tryz.f71, r9P, r9ST, lb, Nb, hk]
  exact hgo _ (by simp [r9P])
set_option maxHeartbeats 40000000 in
set_option maxRecDepth 100000 in
theorem r9_E4 {r x y z : Int} {m : List Blk} {b : Nat} {Q : Ex → St → Prop} (hm : m[b]? = some ⟨shI 4 r x y z .nilslice, 27⟩)
    (hgo : ∀ ts, Fits (r9P b (some (.int .i64 2)) none none) ts → Q .ret ⟨ts, m, []⟩) {ts : List AV} (h0 : Fits (r9P b (some (.int .i64 0)) none none) ts) :
    Good (exec Tryz.T (stOf r9ST) (fun _ => none) 150 (tailC 1 (tailC 1 (tailC 1 (tailC 1 (tailC 1 r9B))))) ⟨ts, m, []⟩) Q := by
  obtain ⟨g, rfl⟩ := fits_of h0 0
  have lb : b < m.length := (List.getElem?_eq_some_iff.1 hm).1
  have Nb : ∀ h : b < m.length, m[b]'h = ⟨shI 4 r x y z .nilslice, 27⟩ := fun h => Option.some.inj ((List.getElem?_eq_getElem h).symm.trans hm)
  simp (maxSteps := 10000000) [r9B, Tryz.f71, r9P, r9ST, lb, Nb]
  exact hgo _ (by simp [r9P])
set_option maxHeartbeats 40000000 in
set_option maxRecDepth 100000 in
theorem r9_E5 {r : Int} {items : List AV} {ty : TypeId} {o1 n c : Nat} {f : Nat → Int} (hn : n ≤ 100) (hF : ∀ j, j < n * 3 → InI (f j)) (c3 : 0 ≤ r) (c1 : SmN r)
    (hload : ∀ i, i < n → ∀ fs z q, loadB ⟨.struct fs, 3, z, q⟩ ⟨items, ty⟩ (o1 + i * 3) = some (.agg [.int .i64 (f (i * 3)), .int .i64 (f (i * 3 + 1)), .int .i64 (f (i * 3 + 2))]))
    {ts : List AV} (h0 : Fits (r9P 1 (some (.int .i64 0)) none none) ts) :
    Good (exec Tryz.T (stOf r9ST) (fun _ => none) 150 (tailC 1 (tailC 1 (tailC 1 (tailC 1 (tailC 1 r9B))))) ⟨ts, [⟨items, ty⟩, ⟨shI 4 r 0 0 0 (.slice 0 o1 n c), 27⟩], []⟩)
      (Ends Tryz.T [ResultVar.tmp 2] (fun v m' => Eqv v (.int .i64 (ckI 4 r 0 0 0 n f)) ∧ refs v = [] ∧ ¬ v = .undef ∧ 1 ≤ m'.length ∧ m'[0]? = some ⟨items, ty⟩) fun _ _ => False) := by
  obtain ⟨g, rfl⟩ := fits_of h0 0
  by_cases a4 : (n : Int) < 4
  · have ck : ckI 4 r 0 0 0 n f = 2 := ck_4no fun h => by have := h.2.2.1; omega
    simp (maxSteps := 10000000) [r9B, Tryz.f71, r9P, r9ST, a4, ck]
  · by_cases a5 : (16 : Int) < n
    · have ck : ckI 4 r 0 0 0 n f = 2 := ck_4no fun h => by have := h.2.2.2.1; omega
      simp (maxSteps := 10000000) [r9B, Tryz.f71, r9P, r9ST, a4, a5, ck]
    · have n1 : 0 < n := by omega
      have n2 : n ≤ 256 := by omega
      simp (maxSteps := 10000000) [-loopA_succ, r9B, Tryz.f71, r9P, r9ST, a4, a5]
      simp only [good_bind, good_unblock]
      refine r9_loop (kd := 4) (r := r) (x := 0) (y := 0) (z := 0) (c := c) hn hF hload (fun ts m l hfit hm hla hsm => ?_) (fun ts m hfit hm hno => ?_) ?_ ?_ ?_
      · obtain ⟨g, rfl⟩ := fits_of hfit 0
        have hm4 : May4 r 0 0 0 n f := ⟨c3, ⟨rfl, rfl, rfl⟩, by omega, by omega, c1.2, hsm⟩
        have hlen : 0 < m.length := (List.getElem?_eq_some_iff.1 hm).1
        have N0 : ∀ (h : 0 < m.length), m[0]'h = ⟨items, ty⟩ := fun h => Option.some.inj ((List.getElem?_eq_getElem h).symm.trans hm)
        obtain ⟨q, cc, rfl, hq⟩ : ∃ q cc, l = .slice q 0 n (n + cc) ∧ m[q]? = some ⟨[.arr .i64 ((n + cc) * 3) (cutL (n * 3) (nrF f))], 157⟩ := by
          rcases hla with ⟨-, h⟩ | h
          · omega
          · exact h
        have hE3 : ∀ ts df, listE (St.mem ⟨ts, m, df⟩) (.slice q 0 n (n + cc)) = some (n, cutL (n * 3) (nrF f)) := fun ts df => hla.toE
        have hcf : (∀ j, j < n * 3 → PtN (cutL (n * 3) (nrF f) j)) = True := eq_true fun j hj => by rw [cutL_lt hj]; exact near_pt (hsm j hj)
        have t4 := four_congr (f := cutL (n * 3) (nrF f)) (g := nrF f) (n := n) fun j hj => cutL_lt hj
        by_cases hf4 : Four (nrF f) n
        · have ck : ckI 4 r 0 0 0 n f = 0 := by unfold ckI; rw [if_pos rfl, if_pos hm4, if_pos hf4]
          simp (maxSteps := 10000000) [r9P, ofLS, hE3, n1, n2, hcf, hlen, N0, t4, hf4, ck]
          try omega
        · have ck : ckI 4 r 0 0 0 n f = 8 := by unfold ckI; rw [if_pos rfl, if_pos hm4, if_neg hf4]
          have t6 : ∀ k : Nat, (k : Int) % 3 < 3 := fun k => by omega
          simp (maxSteps := 10000000) [r9P, ofLS, hE3, n1, n2, hcf, hlen, N0, t4, hf4, ck, t6]
          try omega
      · obtain ⟨g, rfl⟩ := fits_of hfit 0
        have ck : ckI 4 r 0 0 0 n f = 2 := ck_4no fun h => hno h.2.2.2.2.2
        have hlen : 0 < m.length := (List.getElem?_eq_some_iff.1 hm).1
        simp [r9P, hm, ck]
        try omega
      · rfl
      · rfl
      · simp [r9P]
theorem r9_all {kd r x y z : Int} {l : AV} {m : List Blk} {b n : Nat} {f : Nat → Int} {Q : Ex → St → Prop} (hm : m[b]? = some ⟨shI kd r x y z l, 27⟩) (hr : InI r) (hx : InI x) (hy : InI y) (hz : InI z) (hl : (l = .nilslice ∧ n = 0) ∨ ∃ p o c, l = .slice p o n c ∧ n ≤ c)
    (hret : ∀ ts, Fits (r9P b (some (.int .i64 (ckI kd r x y z n f))) none none) ts → Q .ret ⟨ts, m, []⟩)
    (hgo : ∀ ts, kd = 4 → 0 ≤ r → SmN r → x = 0 → y = 0 → z = 0 → Fits (r9P b (some (.int .i64 0)) none none) ts → Good (exec Tryz.T (stOf r9ST) (fun _ => none) 150 (tailC 1 (tailC 1 (tailC 1 (tailC 1 (tailC 1 r9B))))) ⟨ts, m, []⟩) Q)
    {ts : List AV} (h0 : Fits (r9P b (some (.int .i64 0)) none none) ts) : Good (exec Tryz.T (stOf r9ST) (fun _ => none) 150 (tailC 1 r9B) ⟨ts, m, []⟩) Q := by
  refine r9_A rfl hm hr hx hy hz (fun ts hf hb => hret ts ?_) (fun ts hf hA => r9_B rfl hm hr hx hy hz hl (fun ts hf hb => hret ts ?_) (fun ts hf hB => r9_C rfl hm hr hx hy hz (fun ts hf hb => hret ts ?_) (fun ts hf hC => r9_D rfl hm hr hx hy hz (fun ts hf hb => hret ts ?_) (fun ts hf hD => ?_) hf) hf) hf) h0
  · have ck : ckI kd r x y z n f = 2 := by
      by_cases h1 : 0 ≤ r ∧ r ≤ 274877906944 ∧ Size3 x y z
      · exact ck_n (by rintro rfl; exact hb ⟨by omega, by omega, h1.1, ⟨by omega, h1.2.1⟩, h1.2.2⟩) fun h => hb (by
          have := (may_in h.1).1
          exact ⟨by omega, by omega, h1.1, ⟨by omega, h1.2.1⟩, h1.2.2⟩)
      · exact ck_bad h1
    rw [ck]; exact hf
  · have ck : ckI kd r x y z n f = 2 := by
      by_cases h4 : kd = 4
      · exact absurd ⟨by omega, by omega⟩ hb
      · refine ck_n h4 fun h => hb ⟨fun h2 => ?_, fun h3 => by omega⟩
        rcases (show kd = 1 ∨ kd = 2 by omega) with rfl | rfl
        · have := (okN_1.1 h.1).1.1; omega
        · have := (okN_2.1 h.1).1.1; omega
    rw [ck]; exact hf
  · have ck : ckI kd r x y z n f = 2 := by
      refine ck_n (by rintro rfl; exact hb ⟨by omega, by omega⟩) fun h => hb ?_
      have := (may_in h.1).1
      exact ⟨by omega, by omega⟩
    rw [ck]; exact hf
  · have ck : ckI kd r x y z n f = 2 := by
      by_cases h4 : kd = 4
      · subst h4; exact ck_4no fun h => hb fun _ => h.2.1
      · refine ck_n h4 fun h => hb ?_
        have := (may_in h.1).1
        omega
    rw [ck]; exact hf
  · by_cases h4 : kd = 4
    · exact hgo ts h4 hA.2.2.1 hA.2.2.2.1 (hD (.inr h4)).1 (hD (.inr h4)).2.1 (hD (.inr h4)).2.2 hf
    · refine r9_E3 hm (by omega) (fun ts hf => hret ts ?_) hf
      have h0 : n = 0 := by omega
      subst h0
      have ok : OkN kd r x y z := by
        rcases k123 hA.1 hA.2.1 h4 with rfl | rfl | rfl
        · obtain ⟨q1, q2, q3⟩ := hD (.inl rfl)
          exact okN_1.2 ⟨⟨by omega, q1, q2, q3⟩, hA.2.2.2.1.2, hA.2.2.2.2⟩
        · obtain ⟨q1, q2, q3⟩ := hC.1 rfl
          exact okN_2.2 ⟨⟨by omega, q1, q2, q3⟩, hA.2.2.2.1.2, hA.2.2.2.2⟩
        · obtain ⟨q1, q2, q3⟩ := hC.2 rfl
          exact okN_3.2 ⟨⟨by omega, min3_le.2 ⟨q1, q2, q3⟩⟩, hA.2.2.2.1.2, hA.2.2.2.2⟩
      rw [ck_good ok]; exact hf
set_option maxHeartbeats 40000000 in
set_option maxRecDepth 100000 in
theorem r9check_ok : SumOk Tryz.prog 71 checkBS := by
  refine sum_read (L := fun _ => none) (n := 150) (S := stOf r9ST) drawS Tryz.T_ok (stOf_ok (by simp [r9ST, r9fits_ok, r9fit_ok, r6Round_ok, ofL_ok])) Tryz.func71 rfl (by kernel_rfl) (by kernel_rfl) ?_
  intro args env nxt h
  unfold checkBS at h ⊢
  split at h
  · rename_i kd r x y z l
    split at h
    · rename_i n f hl
      split at h
      · rename_i hc
        simp only [if_pos hc]
        obtain ⟨hkd, hr, hx, hy, hz, hn, hF⟩ := id hc
        rcases laid_shape (fun l => [.agg [.int .i64 kd, .int .i64 r, .int .i64 x, .int .i64 y, .int .i64 z, l]]) hl (fun _ _ => rfl) (fun l => by simp) with ⟨rfl, rfl, rfl, hlaid⟩ | ⟨p, o1, c, items, ty, rfl, hlaid, hnc, hr', -, hE, hE2, hload⟩
        · refine ⟨_, _, _, .int .i64 (ckI kd r x y z 0 fun _ => 0), hlaid, rfl, rfl, rfl, ?_⟩
          show Good (exec Tryz.T (stOf r9ST) (fun _ => none) 150 r9B _) _
          refine good_cut 1 rfl ?_
          generalize h1 : tailC 1 r9B = tl
          simp [r9B, Tryz.f71]
          subst h1
          refine r9_all (b := 0) (n := 0) (f := fun _ => 0) (l := .nilslice) (kd := kd) (r := r) (x := x) (y := y) (z := z) rfl hr hx hy hz (.inl ⟨rfl, rfl⟩) (fun ts hf => ?_) (fun ts h4 h5 h6 h7 h8 h9 hf => ?_) ?_
          · obtain ⟨g, rfl⟩ := fits_of hf 0
            simp [r9P]
          · subst h4
            refine r9_E4 rfl (fun ts hf => ?_) hf
            obtain ⟨g, rfl⟩ := fits_of hf 0
            have ck : ckI 4 r x y z 0 (fun _ => 0) = 2 := ck_4no fun h => by have := h.2.2.1; omega
            simp [r9P, ck]
          · simp [r9P]
        · refine ⟨_, _, _, .int .i64 (ckI kd r x y z n f), hlaid, rfl, rfl, rfl, ?_⟩
          show Good (exec Tryz.T (stOf r9ST) (fun _ => none) 150 r9B _) _
          refine good_cut 1 rfl ?_
          generalize h1 : tailC 1 r9B = tl
          simp [r9B, Tryz.f71]
          subst h1
          refine r9_all (b := 1) (n := n) (f := f) (l := .slice 0 o1 n c) (kd := kd) (r := r) (x := x) (y := y) (z := z) rfl hr hx hy hz (.inr ⟨0, o1, c, rfl, hnc⟩) (fun ts hf => ?_) (fun ts h4 h5 h6 h7 h8 h9 hf => ?_) ?_
          · obtain ⟨g, rfl⟩ := fits_of hf 0
            simp [r9P]
          · subst h4 h7 h8 h9
            exact r9_E5 (c := c) hn hF h5 h6 hload hf
          · simp [r9P]
      · simp [*] at h
    · simp [*] at h
  · simp at h
end Go.X
end

section
namespace Go.X
open Go.Proofs
attribute [local irreducible] Good
end Go.X
end

section
namespace Go.X
open Go.Proofs
attribute [local irreducible] Good
end Go.X
end
