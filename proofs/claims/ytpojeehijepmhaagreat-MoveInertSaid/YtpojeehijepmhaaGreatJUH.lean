/- The reference: may a shape be? -/
import Derived.Test.YtpojeehijepmhaaGreatGP
import Derived.Test.YtpojeehijepmhaaGreatGK
import Derived.Test.YtpojeehijepmhaaGreatGQ
import Derived.Test.YtpojeehijepmhaaGreatGR
namespace Go.X
open Go.Proofs
attribute [local irreducible] Good
noncomputable def r9ST : List (FuncId × Sum) := [(114, pureS r9fitsS), (115, pureS r9fitS), (116, pureS r6RoundS), (117, ofLS)]
noncomputable def r9Loop : Code := match Tryz.f52.body with | some (.seq _ (.seq _ (.seq _ (.seq _ (.seq _ (.seq _ (.seq _ (.seq _ (.seq (.seq _ (.block _ (.loop c))) _))))))))) => c | _ => .skip
noncomputable def r9P (b : Nat) (q l : Option AV) (i : Option AV) : List (Option AV) := [none, some (.ptr b 0), q, l, i, none, none, none, none, none, none, none, none, none, none, none, none, none, none, none, none, none, none, none, none, none, none, none, none, none, none, none, none, none, none, none, none, none, none, none, none, none, none, none, none, none, none, none, none, none, none, none, none, none, none, none, none, none, none, none, none, none, none, none, none, none, none, none, none, none, none, none, none, none, none, none, none, none, none, none, none, none, none, none, none, none, none, none, none, none, none, none, none, none, none, none, none, none, none, none, none, none, none, none, none, none, none, none, none, none, none, none, none, none, none, none, none, none, none, none, none, none, none, none, none, none, none, none, none, none, none, none, none, none, none, none, none, none, none, none, none, none, none, none, none, none, none, none, none, none, none, none, none, none, none, none, none, none, none, none, none, none]
set_option maxHeartbeats 40000000 in
set_option maxRecDepth 100000 in
theorem r9_loop {items : List AV} {ty : TypeId} {kd r x y z : Int} {o1 n c : Nat} {f : Nat → Int} (hn : n ≤ 100) (hF : ∀ j, j < n * 3 → InI (f j))
    (hload : ∀ i, i < n → ∀ fs z q, loadB ⟨.struct fs, 3, z, q⟩ ⟨items, ty⟩ (o1 + i * 3) = some (.agg [.int .i64 (f (i * 3)), .int .i64 (f (i * 3 + 1)), .int .i64 (f (i * 3 + 2))])) {Q : Ex → St → Prop}
    (hQ1 : ∀ (ts : List AV) (m : List Blk) (l : AV), Fits (r9P 1 none (some l) none) ts → m[0]? = some ⟨items, ty⟩ → LA m 3 148 l n (nrF f) → (∀ j, j < n * 3 → SmN (f j)) → Q (.exit 0) ⟨ts, m, []⟩)
    (hQ2 : ∀ (ts : List AV) (m : List Blk), Fits (r9P 1 (some (.int .i64 2)) none none) ts → m[0]? = some ⟨items, ty⟩ → (¬ ∀ j, j < n * 3 → SmN (f j)) → Q .ret ⟨ts, m, []⟩)
    {ts : List AV} {m0 : List Blk} (hm0 : m0[0]? = some ⟨items, ty⟩) (hm1 : m0[1]? = some ⟨shI kd r x y z (.slice 0 o1 n c), 27⟩) (h0 : Fits (r9P 1 none (some .nilslice) (some (.int .i64 0))) ts) :
    Good (loopA (exec Tryz.T (stOf r9ST) (fun _ => none) 150 r9Loop) 150 ⟨ts, m0, []⟩) Q := by
  refine loop_rule (fun k s => ∃ (i : Nat) (l : AV), i + k = n ∧ Fits (r9P 1 none (some l) (some (.int .i64 i))) s.ts ∧ s.m[0]? = some ⟨items, ty⟩ ∧ s.m[1]? = some ⟨shI kd r x y z (.slice 0 o1 n c), 27⟩ ∧ LA s.m 3 148 l i (nrF f) ∧ (∀ q, q ∈ refs l → 2 ≤ q) ∧ (∀ j, j < i * 3 → SmN (f j)) ∧ s.df = []) ?_ 150 n _ (by omega)
    ⟨0, .nilslice, by omega, h0, hm0, hm1, LA.nil, by simp [refs], by omega, rfl⟩
  rintro k ⟨ts, m, df⟩ ⟨i, l, hik, hfit, hm, hm1, hl, hlr0, hsm, hd⟩
  simp only at hfit hm hm1 hl hd
  subst hd
  obtain ⟨g, rfl⟩ := fits_of hfit 0
  have hlen1 : 1 < m.length := (List.getElem?_eq_some_iff.1 hm1).1
  have hlen : 0 < m.length := by omega
  have N0 : ∀ (h : 0 < m.length), m[0]'h = ⟨items, ty⟩ := fun h => Option.some.inj ((List.getElem?_eq_getElem h).symm.trans hm)
  have N1 : ∀ (h : 1 < m.length), m[1]'h = ⟨shI kd r x y z (.slice 0 o1 n c), 27⟩ := fun h => Option.some.inj ((List.getElem?_eq_getElem h).symm.trans hm1)
  by_cases hi : i < n
  · have hi1 : (i : Int) < n := by omega
    have w1 : IntKind.i64.wrap ((i : Int) + 1) = i + 1 := wrap_i64_in (by omega) (by omega)
    have l0 := hload i hi
    have p0 : InI (f (i * 3)) := hF _ (by omega)
    have p1 : InI (f (i * 3 + 1)) := hF _ (by omega)
    have p2 : InI (f (i * 3 + 2)) := hF _ (by omega)
    have L0 : ∀ x, (m ++ x)[0]? = some ⟨items, ty⟩ := fun x => by rw [List.getElem?_append_left hlen]; exact hm
    have L1 : ∀ x', (m ++ x')[1]? = some ⟨shI kd r x y z (.slice 0 o1 n c), 27⟩ := fun x' => by rw [List.getElem?_append_left hlen1]; exact hm1
    have g3 : (∀ q, q ∈ refs l → q < m.length) = True := eq_true hl.ref.2.2
    have g0 := hl.ref
    by_cases hs : Size3 (f (i * 3)) (f (i * 3 + 1)) (f (i * 3 + 2))
    · have s0 : SmN (f (i * 3)) := hs.1
      have s1 : SmN (f (i * 3 + 1)) := hs.2.1
      have s2 : SmN (f (i * 3 + 2)) := hs.2.2
      simp (maxSteps := 10000000) [-ofOR, ofOR_val, r9Loop, r9P, r9ST, Tryz.f52, hi1, hlen, hlen1, N0, N1, ↓l0, modify_end, p0, p1, p2, hs, s0, s1, s2]
      intro cc
      simp only [good_bind, good_unblock]
      refine append_good2 (n := i) (n' := 1) (o' := 0) (F := nrF f) (g := fun j => [nearI (f (i * 3)), nearI (f (i * 3 + 1)), nearI (f (i * 3 + 2))][j]?.getD 0) Tryz.T_146 rfl (by decide) rfl (by simp) (hl.keep fun q hq => List.getElem?_append_left (hl.ref.2.2 q hq)) (by simp) rfl (by decide) (by omega) ?_ cc
      intro m' v hk hlen2 hla hlr
      simp [w1]
      refine ⟨k - 1, by omega, i + 1, by omega, v, ⟨rfl, by omega⟩, ?_, ?_, ?_, ?_, ?_⟩
      · rw [hk 0 (by simp) (fun h => by have := hlr0 0 h; omega)]; exact L0 _
      · rw [hk 1 (by simp <;> omega) (fun h => by have := hlr0 1 h; omega)]; exact L1 _
      · refine hla.congr fun j hj => ?_
        by_cases hj0 : j < i * 3
        · simp only [hj0, if_true]
        · simp only [hj0, if_false, Nat.zero_add]
          have : j = i * 3 ∨ j = i * 3 + 1 ∨ j = i * 3 + 2 := by omega
          rcases this with rfl | rfl | rfl
          · rw [Nat.sub_self]; rfl
          · rw [show i * 3 + 1 - i * 3 = 1 from by omega]; rfl
          · rw [show i * 3 + 2 - i * 3 = 2 from by omega]; rfl
      · intro q hq
        rcases hlr q hq with h | h
        · exact hlr0 q h
        · simp at h; omega
      · intro j hj
        by_cases hj0 : j < i * 3
        · exact hsm j hj0
        · have : j = i * 3 ∨ j = i * 3 + 1 ∨ j = i * 3 + 2 := by omega
          rcases this with rfl | rfl | rfl
          · exact s0
          · exact s1
          · exact s2
    · simp (maxSteps := 10000000) [-ofOR, ofOR_val, r9Loop, r9P, r9ST, Tryz.f52, hi1, hlen, hlen1, N0, N1, ↓l0, p0, p1, p2, hs]
      exact hQ2 _ _ (by simp [r9P]) hm fun h => hs ⟨h _ (by omega), h _ (by omega), h _ (by omega)⟩
  · have : i = n := by omega
    subst this
    simp (maxSteps := 10000000) [r9Loop, r9P, Tryz.f52, hlen1, N1]
    exact hQ1 _ _ _ (by simp [r9P]) hm hl hsm
theorem ck_bad {kd r x y z : Int} {n : Nat} {f : Nat → Int} (h : ¬ (0 ≤ r ∧ r ≤ 274877906944 ∧ Size3 x y z)) : ckI kd r x y z n f = 2 := by
  by_cases h4 : kd = 4
  · subst h4
    exact ck_4no fun k => h ⟨k.1, k.2.2.2.2.1, by obtain ⟨rfl, rfl, rfl⟩ := k.2.1; decide⟩
  · exact ck_n h4 fun k => h (by obtain ⟨-, a, b, c⟩ := may_in k.1; exact ⟨a, b, c⟩)
theorem ck_good {kd r x y z : Int} {f : Nat → Int} (h : OkN kd r x y z) : ckI kd r x y z 0 f = 0 := by
  have h4 : ¬ kd = 4 := by rintro rfl; exact okN_not (by decide) (by decide) (by decide) h
  rw [ck_0 h4, if_pos h]
noncomputable def r9B : Code := match Tryz.f52.body with | some c => c | none => .skip
set_option maxHeartbeats 40000000 in
set_option maxRecDepth 100000 in
theorem r9_A {kd r x y z : Int} {l : AV} {m : List Blk} {b : Nat} {Q : Ex → St → Prop} {tl : Code} (htl : tailC 1 (tailC 1 r9B) = tl) (hm : m[b]? = some ⟨shI kd r x y z l, 27⟩) (hr : InI r) (hx : InI x) (hy : InI y) (hz : InI z)
    (hbad : ∀ ts, Fits (r9P b (some (.int .i64 2)) none none) ts → ¬ (1 ≤ kd ∧ kd ≤ 4 ∧ 0 ≤ r ∧ SmN r ∧ Size3 x y z) → Q .ret ⟨ts, m, []⟩)
    (hgo : ∀ ts, Fits (r9P b (some (.int .i64 0)) none none) ts → (1 ≤ kd ∧ kd ≤ 4 ∧ 0 ≤ r ∧ SmN r ∧ Size3 x y z) → Good (exec Tryz.T (stOf r9ST) (fun _ => none) 150 tl ⟨ts, m, []⟩) Q) {ts : List AV} (h0 : Fits (r9P b (some (.int .i64 0)) none none) ts) :
    Good (exec Tryz.T (stOf r9ST) (fun _ => none) 150 (tailC 1 r9B) ⟨ts, m, []⟩) Q := by
  obtain ⟨g, rfl⟩ := fits_of h0 0
  have lb : b < m.length := (List.getElem?_eq_some_iff.1 hm).1
  have Nb : ∀ h : b < m.length, m[b]'h = ⟨shI kd r x y z l, 27⟩ := fun h => Option.some.inj ((List.getElem?_eq_getElem h).symm.trans hm)
  refine good_cut 1 htl ?_
  by_cases c0 : kd < 1
  · simp (maxSteps := 10000000) [r9B, Tryz.f52, r9P, r9ST, lb, Nb, c0]
    exact hbad _ (by simp [r9P]) (by omega)
  · by_cases c1 : 4 < kd
    · simp (maxSteps := 10000000) [r9B, Tryz.f52, r9P, r9ST, lb, Nb, c0, c1]
      exact hbad _ (by simp [r9P]) (by omega)
    · by_cases c2 : SmN r
      · by_cases c3 : Size3 x y z
        · by_cases c4 : r < 0
          · simp (maxSteps := 10000000) [r9B, Tryz.f52, r9P, r9ST, lb, Nb, hr, hx, hy, hz, c0, c1, c2, c3, c4]
            exact hbad _ (by simp [r9P]) (by omega)
          · simp (maxSteps := 10000000) [r9B, Tryz.f52, r9P, r9ST, lb, Nb, hr, hx, hy, hz, c0, c1, c2, c3, c4]
            exact hgo _ (by simp [r9P]) ⟨by omega, by omega, by omega, c2, c3⟩
        · simp (maxSteps := 10000000) [r9B, Tryz.f52, r9P, r9ST, lb, Nb, hr, hx, hy, hz, c0, c1, c2, c3]
          exact hbad _ (by simp [r9P]) fun h => c3 h.2.2.2.2
      · simp (maxSteps := 10000000) [r9B, Tryz.f52, r9P, r9ST, lb, Nb, hr, c0, c1, c2]
        exact hbad _ (by simp [r9P]) fun h => c2 h.2.2.2.1
set_option maxHeartbeats 40000000 in
set_option maxRecDepth 100000 in
theorem r9_B {kd r x y z : Int} {l : AV} {m : List Blk} {b : Nat} {Q : Ex → St → Prop} {tl : Code} (htl : tailC 1 (tailC 1 (tailC 1 r9B)) = tl) (hm : m[b]? = some ⟨shI kd r x y z l, 27⟩) (hr : InI r) (_hx : InI x) (_hy : InI y) (_hz : InI z) {n : Nat} (hl : (l = .nilslice ∧ n = 0) ∨ ∃ p o c, l = .slice p o n c ∧ n ≤ c)
    (hbad : ∀ ts, Fits (r9P b (some (.int .i64 2)) none none) ts → ¬ (¬ (kd ≤ 2 ∧ r = 0) ∧ ¬ (kd < 4 ∧ 0 < n)) → Q .ret ⟨ts, m, []⟩)
    (hgo : ∀ ts, Fits (r9P b (some (.int .i64 0)) none none) ts → (¬ (kd ≤ 2 ∧ r = 0) ∧ ¬ (kd < 4 ∧ 0 < n)) → Good (exec Tryz.T (stOf r9ST) (fun _ => none) 150 tl ⟨ts, m, []⟩) Q) {ts : List AV} (h0 : Fits (r9P b (some (.int .i64 0)) none none) ts) :
    Good (exec Tryz.T (stOf r9ST) (fun _ => none) 150 (tailC 1 (tailC 1 r9B)) ⟨ts, m, []⟩) Q := by
  obtain ⟨g, rfl⟩ := fits_of h0 0
  have lb : b < m.length := (List.getElem?_eq_some_iff.1 hm).1
  have Nb : ∀ h : b < m.length, m[b]'h = ⟨shI kd r x y z l, 27⟩ := fun h => Option.some.inj ((List.getElem?_eq_getElem h).symm.trans hm)
  refine good_cut 1 htl ?_
  rcases hl with ⟨rfl, rfl⟩ | ⟨p, o1, c, rfl, -⟩
  · by_cases c0 : kd ≤ 2
    · by_cases c1 : r = 0
      · subst c1
        simp (maxSteps := 10000000) [r9B, Tryz.f52, r9P, r9ST, lb, Nb, c0]
        exact hbad _ (by simp [r9P]) (by omega)
      · have c2 : kd < 4 := by omega
        simp (maxSteps := 10000000) [r9B, Tryz.f52, r9P, r9ST, lb, Nb, c0, c1, c2]
        exact hgo _ (by simp [r9P]) (by omega)
    · by_cases c2 : kd < 4
      · simp (maxSteps := 10000000) [r9B, Tryz.f52, r9P, r9ST, lb, Nb, c0, c2]
        exact hgo _ (by simp [r9P]) (by omega)
      · simp (maxSteps := 10000000) [r9B, Tryz.f52, r9P, r9ST, lb, Nb, c0, c2]
        exact hgo _ (by simp [r9P]) (by omega)
  · by_cases c0 : kd ≤ 2
    · by_cases c1 : r = 0
      · subst c1
        simp (maxSteps := 10000000) [r9B, Tryz.f52, r9P, r9ST, lb, Nb, c0]
        exact hbad _ (by simp [r9P]) (by omega)
      · have c2 : kd < 4 := by omega
        by_cases c3 : 0 < n
        · simp (maxSteps := 10000000) [r9B, Tryz.f52, r9P, r9ST, lb, Nb, c0, c1, c2, c3]
          exact hbad _ (by simp [r9P]) (by omega)
        · simp (maxSteps := 10000000) [r9B, Tryz.f52, r9P, r9ST, lb, Nb, c0, c1, c2, c3]
          exact hgo _ (by simp [r9P]) (by omega)
    · by_cases c2 : kd < 4
      · by_cases c3 : 0 < n
        · simp (maxSteps := 10000000) [r9B, Tryz.f52, r9P, r9ST, lb, Nb, c0, c2, c3]
          exact hbad _ (by simp [r9P]) (by omega)
        · simp (maxSteps := 10000000) [r9B, Tryz.f52, r9P, r9ST, lb, Nb, c0, c2, c3]
          exact hgo _ (by simp [r9P]) (by omega)
      · simp (maxSteps := 10000000) [r9B, Tryz.f52, r9P, r9ST, lb, Nb, c0, c2]
        exact hgo _ (by simp [r9P]) (by omega)
set_option maxHeartbeats 40000000 in
set_option maxRecDepth 100000 in
theorem r9_C {kd r x y z : Int} {l : AV} {m : List Blk} {b : Nat} {Q : Ex → St → Prop} {tl : Code} (htl : tailC 1 (tailC 1 (tailC 1 (tailC 1 r9B))) = tl) (hm : m[b]? = some ⟨shI kd r x y z l, 27⟩) (_hr : InI r) (hx : InI x) (hy : InI y) (_hz : InI z)
    (hbad : ∀ ts, Fits (r9P b (some (.int .i64 2)) none none) ts → ¬ ((kd = 2 → x = 0 ∧ y = 0 ∧ 0 < z) ∧ (kd = 3 → 65536 ≤ x ∧ 65536 ≤ y ∧ 65536 ≤ z)) → Q .ret ⟨ts, m, []⟩)
    (hgo : ∀ ts, Fits (r9P b (some (.int .i64 0)) none none) ts → ((kd = 2 → x = 0 ∧ y = 0 ∧ 0 < z) ∧ (kd = 3 → 65536 ≤ x ∧ 65536 ≤ y ∧ 65536 ≤ z)) → Good (exec Tryz.T (stOf r9ST) (fun _ => none) 150 tl ⟨ts, m, []⟩) Q) {ts : List AV} (h0 : Fits (r9P b (some (.int .i64 0)) none none) ts) :
    Good (exec Tryz.T (stOf r9ST) (fun _ => none) 150 (tailC 1 (tailC 1 (tailC 1 r9B))) ⟨ts, m, []⟩) Q := by
  obtain ⟨g, rfl⟩ := fits_of h0 0
  have lb : b < m.length := (List.getElem?_eq_some_iff.1 hm).1
  have Nb : ∀ h : b < m.length, m[b]'h = ⟨shI kd r x y z l, 27⟩ := fun h => Option.some.inj ((List.getElem?_eq_getElem h).symm.trans hm)
  refine good_cut 1 htl ?_
  rcases (show kd = 2 ∨ kd = 3 ∨ (¬ kd = 2 ∧ ¬ kd = 3) by omega) with rfl | rfl | ⟨k2, k3⟩
  · by_cases a1 : x = 0
    · subst a1
      by_cases a2 : y = 0
      · subst a2
        by_cases a3 : z ≤ 0
        · simp (maxSteps := 10000000) [r9B, Tryz.f52, r9P, r9ST, lb, Nb, a3]
          exact hbad _ (by simp [r9P]) (by omega)
        · simp (maxSteps := 10000000) [r9B, Tryz.f52, r9P, r9ST, lb, Nb, a3]
          exact hgo _ (by simp [r9P]) (by omega)
      · have b2 : (y != 0) = true := by simpa using a2
        simp (maxSteps := 10000000) [r9B, Tryz.f52, r9P, r9ST, lb, Nb, b2]
        exact hbad _ (by simp [r9P]) (by omega)
    · have b1 : (x != 0) = true := by simpa using a1
      simp (maxSteps := 10000000) [r9B, Tryz.f52, r9P, r9ST, lb, Nb, b1]
      exact hbad _ (by simp [r9P]) (by omega)
  · by_cases a1 : x < 65536
    · simp (maxSteps := 10000000) [r9B, Tryz.f52, r9P, r9ST, lb, Nb, a1]
      exact hbad _ (by simp [r9P]) (by omega)
    · by_cases a2 : y < 65536
      · simp (maxSteps := 10000000) [r9B, Tryz.f52, r9P, r9ST, lb, Nb, a1, a2]
        exact hbad _ (by simp [r9P]) (by omega)
      · by_cases a3 : z < 65536
        · simp (maxSteps := 10000000) [r9B, Tryz.f52, r9P, r9ST, lb, Nb, a1, a2, a3]
          exact hbad _ (by simp [r9P]) (by omega)
        · simp (maxSteps := 10000000) [r9B, Tryz.f52, r9P, r9ST, lb, Nb, a1, a2, a3]
          exact hgo _ (by simp [r9P]) (by omega)
  · have b2 : (kd == 2) = false := by simpa using k2
    have b3 : (kd == 3) = false := by simpa using k3
    simp (maxSteps := 10000000) [r9B, Tryz.f52, r9P, r9ST, lb, Nb, b2, b3]
    exact hgo _ (by simp [r9P]) (by omega)
set_option maxHeartbeats 40000000 in
set_option maxRecDepth 100000 in
theorem r9_D {kd r x y z : Int} {l : AV} {m : List Blk} {b : Nat} {Q : Ex → St → Prop} {tl : Code} (htl : tailC 1 (tailC 1 (tailC 1 (tailC 1 (tailC 1 r9B)))) = tl) (hm : m[b]? = some ⟨shI kd r x y z l, 27⟩) (_hr : InI r) (hx : InI x) (hy : InI y) (hz : InI z)
    (hbad : ∀ ts, Fits (r9P b (some (.int .i64 2)) none none) ts → ¬ ((kd = 1 ∨ kd = 4 → x = 0 ∧ y = 0 ∧ z = 0)) → Q .ret ⟨ts, m, []⟩)
    (hgo : ∀ ts, Fits (r9P b (some (.int .i64 0)) none none) ts → ((kd = 1 ∨ kd = 4 → x = 0 ∧ y = 0 ∧ z = 0)) → Good (exec Tryz.T (stOf r9ST) (fun _ => none) 150 tl ⟨ts, m, []⟩) Q) {ts : List AV} (h0 : Fits (r9P b (some (.int .i64 0)) none none) ts) :
    Good (exec Tryz.T (stOf r9ST) (fun _ => none) 150 (tailC 1 (tailC 1 (tailC 1 (tailC 1 r9B)))) ⟨ts, m, []⟩) Q := by
  obtain ⟨g, rfl⟩ := fits_of h0 0
  have lb : b < m.length := (List.getElem?_eq_some_iff.1 hm).1
  have Nb : ∀ h : b < m.length, m[b]'h = ⟨shI kd r x y z l, 27⟩ := fun h => Option.some.inj ((List.getElem?_eq_getElem h).symm.trans hm)
  refine good_cut 1 htl ?_
  rcases (show kd = 1 ∨ kd = 4 ∨ (¬ kd = 1 ∧ ¬ kd = 4) by omega) with rfl | rfl | ⟨k2, k3⟩
  · by_cases a1 : x = 0
    · subst a1
      by_cases a2 : y = 0
      · subst a2
        by_cases a3 : z = 0
        · subst a3
          simp (maxSteps := 10000000) [r9B, Tryz.f52, r9P, r9ST, lb, Nb]
          exact hgo _ (by simp [r9P]) (by omega)
        · have b3 : (z != 0) = true := by simpa using a3
          simp (maxSteps := 10000000) [r9B, Tryz.f52, r9P, r9ST, lb, Nb, b3]
          exact hbad _ (by simp [r9P]) (by omega)
      · have b2 : (y != 0) = true := by simpa using a2
        simp (maxSteps := 10000000) [r9B, Tryz.f52, r9P, r9ST, lb, Nb, b2]
        exact hbad _ (by simp [r9P]) (by omega)
    · have b1 : (x != 0) = true := by simpa using a1
      simp (maxSteps := 10000000) [r9B, Tryz.f52, r9P, r9ST, lb, Nb, b1]
      exact hbad _ (by simp [r9P]) (by omega)
  · by_cases a1 : x = 0
    · subst a1
      by_cases a2 : y = 0
      · subst a2
        by_cases a3 : z = 0
        · subst a3
          simp (maxSteps := 10000000) [r9B, Tryz.f52, r9P, r9ST, lb, Nb]
          exact hgo _ (by simp [r9P]) (by omega)
        · have b3 : (z != 0) = true := by simpa using a3
          simp (maxSteps := 10000000) [r9B, Tryz.f52, r9P, r9ST, lb, Nb, b3]
          exact hbad _ (by simp [r9P]) (by omega)
      · have b2 : (y != 0) = true := by simpa using a2
        simp (maxSteps := 10000000) [r9B, Tryz.f52, r9P, r9ST, lb, Nb, b2]
        exact hbad _ (by simp [r9P]) (by omega)
    · have b1 : (x != 0) = true := by simpa using a1
      simp (maxSteps := 10000000) [r9B, Tryz.f52, r9P, r9ST, lb, Nb, b1]
      exact hbad _ (by simp [r9P]) (by omega)
  · have b2 : (kd == 1) = false := by simpa using k2
    have b3 : (kd == 4) = false := by simpa using k3
    simp (maxSteps := 10000000) [r9B, Tryz.f52, r9P, r9ST, lb, Nb, b2, b3]
    exact hgo _ (by simp [r9P]) (by omega)
end Go.X
