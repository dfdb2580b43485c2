/- The rank of points, and the reference. -/
import Derived.Test.YtpojeehijepmhaaGreatGN
import Derived.Test.YtpojeehijepmhaaGreatGV

section
namespace Go.X
open Go.Proofs
attribute [local irreducible] Good
noncomputable def tk (f : Nat → Int) : Nat → Nat × (Nat → Int) × (Nat → Int)
  | 0 => (0, fun _ => 0, fun _ => 0)
  | k + 1 => open Classical in
    if Raise (tk f k).1 (tk f k).2.1 (ptF f k) then ((tk f k).1 + 1, (fun j => if j < (tk f k).1 * 3 then (tk f k).2.1 j else f (k * 3 + (j - (tk f k).1 * 3))), fun j => if j < (tk f k).1 then (tk f k).2.2 j else (k : Int))
    else tk f k
theorem raise_congr {m : Nat} {F G p q : Nat → Int} (hF : ∀ j, j < m * 3 → F j = G j) (hp : ∀ j, j < 3 → p j = q j) : Raise m F p ↔ Raise m G q := by
  have e0 := hp 0 (by decide)
  have e1 := hp 1 (by decide)
  have e2 := hp 2 (by decide)
  unfold Raise
  have k0 : m = 0 ∨ m = 1 ∨ m = 2 ∨ m = 3 ∨ 3 < m := by omega
  rcases k0 with rfl | rfl | rfl | rfl | h
  · simp
  · simp [e0, e1, e2, hF 0 (by decide), hF 1 (by decide), hF 2 (by decide)]
  · simp [lnP, ptF, e0, e1, e2, hF 0 (by decide), hF 1 (by decide), hF 2 (by decide), hF 3 (by decide), hF 4 (by decide), hF 5 (by decide)]
  · simp [dtP, ptF, e0, e1, e2, hF 0 (by decide), hF 1 (by decide), hF 2 (by decide), hF 3 (by decide), hF 4 (by decide), hF 5 (by decide), hF 6 (by decide), hF 7 (by decide), hF 8 (by decide)]
  · constructor <;> (rintro (h | h | h | h) <;> omega)
theorem tk_le (f : Nat → Int) : ∀ k, (tk f k).1 ≤ k ∧ (tk f k).1 ≤ 4
  | 0 => by simp [tk]
  | k + 1 => by
    have ih := tk_le f k
    unfold tk
    split
    · rename_i h
      have : (tk f k).1 ≤ 3 := by unfold Raise at h; omega
      simp only; omega
    · omega
theorem tk_pos {f : Nat → Int} : ∀ {k}, 0 < k → 0 < (tk f k).1
  | 0, h => by omega
  | 1, _ => by simp [tk, Raise]
  | k + 2, _ => by
    have ih := tk_pos (f := f) (k := k + 1) (by omega)
    unfold tk
    split
    · simp
    · exact ih
theorem tk_pt {f : Nat → Int} {P : Int → Prop} : ∀ {k}, (∀ j, j < k * 3 → P (f j)) → ∀ j, j < (tk f k).1 * 3 → P ((tk f k).2.1 j)
  | 0, _, j, hj => by simp [tk] at hj
  | k + 1, h, j, hj => by
    have ih := tk_pt (f := f) (P := P) (k := k) (fun j hj => h j (by omega))
    unfold tk at hj ⊢
    split at hj
    · rename_i hr
      rw [if_pos hr]
      simp only at hj ⊢
      split
      · exact ih j (by assumption)
      · exact h _ (by omega)
    · rename_i hr
      rw [if_neg hr]
      exact ih j hj
def IB (n c : Nat) (F : Nat → Int) : Blk := ⟨[.arr .i64 ((n + c) * 1) (cutL (n * 1) F)], 3⟩
noncomputable def spreadLS : Sum := fun args env nxt => match args with
  | [.slice p o n c] => match listE env (.slice p o n c) with
    | some (n', f) => open Classical in if 0 < n' ∧ n' ≤ 256 ∧ (∀ j, j < n' * 3 → PtN (f j)) then .any fun k => .val (.tup [.slice nxt 0 (tk f n').1 ((tk f n').1 + k), .int .i64 0]) [] [IB (tk f n').1 k (tk f n').2.2] else .fail
    | none => .fail
  | _ => .fail
noncomputable def spreadST : List (FuncId × Sum) := [(186, fineLS), (185, raisesS)]
noncomputable def spreadLoop : Code := match Tryz.f170.body with | some (.seq _ (.scope (.seq _ (.seq _ (.seq _ (.seq _ (.seq (.seq _ (.block _ (.loop c))) _))))))) => c | some (.scope (.seq _ (.seq _ (.seq _ (.seq _ (.seq _ (.seq (.seq _ (.block _ (.loop c))) _))))))) => c | _ => .skip
noncomputable def spreadP (l : AV) (n : Nat) (out : AV) (i : Option AV) : List (Option AV) := [some l, none, some out, some (.int .i64 0), some (.ptr 1 0), some (.mv 185 [.ptr 1 0]), none, none, none, none, none, none, none, none, none, some l, some (.int .i64 n), i, none, none, none, none, none, none, none, none, none, none, none, none, none, none, none, none, none, none, none, none]
theorem IB_get {m : List Blk} {d : AV} {n : Nat} {F : Nat → Int} (h : LA m 1 3 d n F) (hn : 0 < n) : ∃ p c, d = .slice p 0 n (n + c) ∧ m[p]? = some (IB n c F) := by
  rcases h with ⟨-, h⟩ | ⟨p, c, h1, h2⟩
  · omega
  · exact ⟨p, c, h1, h2⟩
set_option maxHeartbeats 40000000 in
set_option maxRecDepth 100000 in
theorem spread_loop {items : List AV} {ty : TypeId} {o1 n c : Nat} {f : Nat → Int} (hn : n ≤ 256) (hF : ∀ j, j < n * 3 → PtN (f j))
    (hload : ∀ i, i < n → ∀ fs z q, loadB ⟨.struct fs, 3, z, q⟩ ⟨items, ty⟩ (o1 + i * 3) = some (.agg [.int .i64 (f (i * 3)), .int .i64 (f (i * 3 + 1)), .int .i64 (f (i * 3 + 2))])) {Q : Ex → St → Prop}
    (hQ : ∀ (ts : List AV) (m : List Blk) (out : AV), Fits (spreadP (.slice 0 o1 n c) n out none) ts → m[0]? = some ⟨items, ty⟩ → LA m 1 3 out (tk f n).1 (tk f n).2.2 → (∀ q, q ∈ refs out → 2 ≤ q) → Q (.exit 0) ⟨ts, m, []⟩)
    {ts : List AV} {m0 : List Blk} (hm0 : m0[0]? = some ⟨items, ty⟩) (hm1 : m0[1]? = some ⟨[.nilslice], 200⟩) (h0 : Fits (spreadP (.slice 0 o1 n c) n .nilslice (some (.int .i64 0))) ts) :
    Good (loopA (exec Tryz.T (stOf spreadST) (fun _ => none) 300 spreadLoop) 300 ⟨ts, m0, []⟩) Q := by
  refine loop_rule (fun k s => ∃ (i : Nat) (d out : AV), i + k = n ∧ Fits (spreadP (.slice 0 o1 n c) n out (some (.int .i64 i))) s.ts ∧ s.m[0]? = some ⟨items, ty⟩ ∧ s.m[1]? = some ⟨[d], 200⟩ ∧ LA s.m 3 148 d (tk f i).1 (tk f i).2.1 ∧ LA s.m 1 3 out (tk f i).1 (tk f i).2.2 ∧ (∀ q, q ∈ refs d → 2 ≤ q) ∧ (∀ q, q ∈ refs out → 2 ≤ q) ∧ s.df = []) ?_ 300 n _ (by omega)
    ⟨0, .nilslice, .nilslice, by omega, h0, hm0, hm1, LA.nil, LA.nil, by simp [refs], by simp [refs], rfl⟩
  rintro k ⟨ts, m, df⟩ ⟨i, d, out, hik, hfit, hm, hmt, hd, ho, hdr, hor, hdf⟩
  simp only at hfit hm hmt hd ho hdf
  subst hdf
  obtain ⟨g, rfl⟩ := fits_of hfit 0
  by_cases hi : i < n
  · have hi1 : (i : Int) < n := by omega
    have w1 : IntKind.i64.wrap ((i : Int) + 1) = i + 1 := wrap_i64_in (by omega) (by omega)
    have hlen1 : 1 < m.length := (List.getElem?_eq_some_iff.1 hmt).1
    have hlen : 0 < m.length := by omega
    have l0 := hload i hi
    have p0 : PtN (f (i * 3)) := hF _ (by omega)
    have p1 : PtN (f (i * 3 + 1)) := hF _ (by omega)
    have p2 : PtN (f (i * 3 + 2)) := hF _ (by omega)
    have hk : ∀ j, j < (tk f i).1 * 3 → PtN (cutL ((tk f i).1 * 3) (tk f i).2.1 j) := fun j hj => by rw [cutL_lt hj]; exact tk_pt (fun j hj => hF j (by omega)) j hj
    have N0 : ∀ (h : 0 < m.length), m[0]'h = ⟨items, ty⟩ := fun h => Option.some.inj ((List.getElem?_eq_getElem h).symm.trans hm)
    have N1 : ∀ (h : 1 < m.length), m[1]'h = ⟨[d], 200⟩ := fun h => Option.some.inj ((List.getElem?_eq_getElem h).symm.trans hmt)
    have L0 : ∀ x, (m ++ x)[0]? = some ⟨items, ty⟩ := fun x => by rw [List.getElem?_append_left hlen]; exact hm
    have L1 : ∀ x, (m ++ x)[1]? = some ⟨[d], 200⟩ := fun x => by rw [List.getElem?_append_left hlen1]; exact hmt
    have hra : ∀ (x : List Blk) (df : List (FuncId × List AV)) (ts : List AV) (nx : Nat), raisesS [.ptr 1 0, .agg [.int .i64 (f (i * 3)), .int .i64 (f (i * 3 + 1)), .int .i64 (f (i * 3 + 2))]] (St.mem ⟨ts, m ++ x, df⟩) nx = .val (.bool (decide (Raise (tk f i).1 (tk f i).2.1 (ptF f i)))) [] [] := by
      intro x df ts nx
      have e1 : listE (fun b => (m ++ x)[b]?) d = some ((tk f i).1, cutL ((tk f i).1 * 3) (tk f i).2.1) := (hd.keep fun q hq => List.getElem?_append_left (hd.ref.2.2 q hq)).toE
      have e2 := raise_congr (m := (tk f i).1) (F := cutL ((tk f i).1 * 3) (tk f i).2.1) (G := (tk f i).2.1) (p := pt3 (f (i * 3)) (f (i * 3 + 1)) (f (i * 3 + 2))) (q := ptF f i) (fun j hj => cutL_lt hj) (fun j hj => by
        have : j = 0 ∨ j = 1 ∨ j = 2 := by omega
        rcases this with rfl | rfl | rfl <;> simp [pt3, ptF])
      have e3 : St.mem ⟨ts, m ++ x, df⟩ = fun b => (m ++ x)[b]? := rfl
      rw [e3]
      simp only [raisesS, L1, e1]
      rw [if_pos ⟨p0, p1, p2, hk⟩]
      simp only [e2]
    have ld : ∀ e es eb ez sz z q t, loadB ⟨.slice e es eb ez, sz, z, q⟩ ⟨[d], t⟩ 0 = some d := by
      intros
      rcases hd with ⟨rfl, -⟩ | ⟨p, c, rfl, -⟩ <;> simp
    have g0 := hd.ref
    have g1 := ho.ref
    have g3 : (∀ q, q ∈ refs d → q < m.length) = True := eq_true hd.ref.2.2
    have g4 : (∀ q, q ∈ refs out → q < m.length) = True := eq_true ho.ref.2.2
    by_cases hr : Raise (tk f i).1 (tk f i).2.1 (ptF f i)
    · simp [-ofOR, ofOR_val, spreadLoop, spreadP, spreadST, Tryz.f170, hi1, hlen, hlen1, N0, N1, l0, modify_end, hra, hr, ld, ↓loadB_not]
      have tkl := tk_le f i
      intro cc
      simp only [good_bind, good_unblock]
      refine append_good2 (n := (tk f i).1) (n' := 1) (o' := 0) (F := (tk f i).2.1) (g := fun j => [f (i * 3), f (i * 3 + 1), f (i * 3 + 2)][j]?.getD 0) Tryz.T_146 rfl (by decide) rfl (by simp) (hd.keep fun q hq => List.getElem?_append_left (hd.ref.2.2 q hq)) (by simp) rfl (by decide) (by omega) ?_ cc
      intro m' v hk hlen2 hla hlr
      have hoq : ∀ q, q ∈ refs out → q ∉ refs d := by
        intro q hq
        rcases ho with ⟨rfl, -⟩ | ⟨p, c, rfl, hp⟩
        · simp [refs] at hq
        · simp only [refs, List.mem_singleton] at hq
          subst hq
          exact hd.not_ref hp (show (3 : TypeId) ≠ 148 by decide)
      have k0 : m'[0]? = some ⟨items, ty⟩ := by rw [hk 0 (by simp) (fun h => by have := hdr 0 h; omega)]; exact L0 _
      have k1 : m'[1]? = some ⟨[d], 200⟩ := by rw [hk 1 (by simp <;> omega) (fun h => by have := hdr 1 h; omega)]; exact L1 _
      have kl1 : 1 < m'.length := (List.getElem?_eq_some_iff.1 k1).1
      have kl0 : 0 < m'.length := by omega
      have M0 : ∀ (h : 0 < m'.length), m'[0]'h = ⟨items, ty⟩ := fun h => Option.some.inj ((List.getElem?_eq_getElem h).symm.trans k0)
      have M1 : ∀ (h : 1 < m'.length), m'[1]'h = ⟨[d], 200⟩ := fun h => Option.some.inj ((List.getElem?_eq_getElem h).symm.trans k1)
      have ho2 : LA m' 1 3 out (tk f i).1 (tk f i).2.2 := ho.keep fun q hq => by
        have hql := ho.ref.2.2 q hq
        rw [hk q (by simp <;> omega) (hoq q hq), List.getElem?_append_left hql]
      obtain ⟨pv, cv, rfl, hpv⟩ : ∃ p c, v = .slice p 0 ((tk f i).1 + 1) ((tk f i).1 + 1 + c) ∧ m'[p]? = some ⟨[.arr .i64 (((tk f i).1 + 1 + c) * 3) (cutL (((tk f i).1 + 1) * 3) _)], 148⟩ := by
        rcases hla with ⟨-, h⟩ | h
        · omega
        · exact h
      have wd : ∀ b o n c, writeRow [d] 0 [.slice b o n c] = some [.slice b o n c] := by
        intros
        rcases hd with ⟨rfl, -⟩ | ⟨p, c, rfl, -⟩ <;> simp
      have wi : ∀ a b, writeRow [.int .i64 a] 0 [.int .i64 b] = some [.int .i64 b] := by intros; simp
      simp [-ofOR, ofOR_val, -writeRow, wd, wi, kl1, M1]
      intro c2
      simp only [good_bind]
      have hkm : ∀ q, 2 ≤ q → (m'.modify 1 fun k => ⟨[.slice pv 0 ((tk f i).1 + 1) ((tk f i).1 + 1 + cv)], k.ty⟩)[q]? = m'[q]? := by
        intro q hq
        rw [List.getElem?_modify]
        simp [show ¬ 1 = q by omega]
      refine append_good2 (n := (tk f i).1) (n' := 1) (o' := 0) (F := (tk f i).2.2) (g := fun j => [(i : Int)][j]?.getD 0) Tryz.T_174 rfl (by decide) rfl (by simp) (ho2.keep fun q hq => by rw [List.getElem?_append_left (by simpa using ho2.ref.2.2 q hq)]; exact hkm q (hor q hq)) (by simp) rfl (by decide) (by omega) ?_ c2
      intro m3 v hk3 hlen3 hla3 hlr3
      have pv2 : 2 ≤ pv := by
        rcases hlr pv (by simp [refs]) with h | h
        · exact hdr _ h
        · simp at h; omega
      have pvl : pv < m'.length := (List.getElem?_eq_some_iff.1 hpv).1
      have npo : pv ∉ refs out := ho2.not_ref hpv (show (148 : TypeId) ≠ 3 by decide)
      have n0 : m3[0]? = some ⟨items, ty⟩ := by
        rw [hk3 0 (by simp) (fun h => by have := hor 0 h; omega)]
        show (m'.modify 1 _ ++ _)[0]? = _
        rw [List.getElem?_append_left (by simpa using kl0), List.getElem?_modify]
        simpa using k0
      have n1 : m3[1]? = some ⟨[.slice pv 0 ((tk f i).1 + 1) ((tk f i).1 + 1 + cv)], 200⟩ := by
        rw [hk3 1 (by simp <;> omega) (fun h => by have := hor 1 h; omega)]
        show (m'.modify 1 _ ++ _)[1]? = _
        rw [List.getElem?_append_left (by simpa using kl1), List.getElem?_modify]
        simp [k1]
      have n2 : m3[pv]? = m'[pv]? := by
        rw [hk3 pv (by simp <;> omega) npo]
        show (m'.modify 1 _ ++ _)[pv]? = _
        rw [List.getElem?_append_left (by simpa using pvl), hkm pv pv2]
      have et : tk f (i + 1) = ((tk f i).1 + 1, (fun j => if j < (tk f i).1 * 3 then (tk f i).2.1 j else f (i * 3 + (j - (tk f i).1 * 3))), fun j => if j < (tk f i).1 then (tk f i).2.2 j else (i : Int)) := by simp only [tk]; rw [if_pos hr]
      have H1 : LA m3 3 148 (.slice pv 0 ((tk f i).1 + 1) ((tk f i).1 + 1 + cv)) ((tk f i).1 + 1) _ := .inr ⟨pv, cv, rfl, by rw [n2]; exact hpv⟩
      simp [w1]
      refine ⟨k - 1, by omega, i + 1, by omega, _, v, ⟨rfl, by omega⟩, n0, n1, ?_, ?_, ?_, ?_⟩
      · rw [et]
        refine H1.congr fun j hj => ?_
        by_cases hj0 : j < (tk f i).1 * 3
        · simp only [hj0, if_true]
        · simp only [hj0, if_false, Nat.zero_add]
          have : j = (tk f i).1 * 3 ∨ j = (tk f i).1 * 3 + 1 ∨ j = (tk f i).1 * 3 + 2 := by omega
          rcases this with rfl | rfl | rfl
          · rw [Nat.sub_self]; rfl
          · rw [show (tk f i).1 * 3 + 1 - (tk f i).1 * 3 = 1 from by omega]; rfl
          · rw [show (tk f i).1 * 3 + 2 - (tk f i).1 * 3 = 2 from by omega]; rfl
      · rw [et]
        refine hla3.congr fun j hj => ?_
        simp only [Nat.mul_one] at hj ⊢
        by_cases hj0 : j < (tk f i).1
        · simp only [hj0, if_true]
        · simp only [hj0, if_false, Nat.zero_add]
          rw [show j - (tk f i).1 = 0 from by omega]; rfl
      · intro q hq
        simp [refs] at hq
        omega
      · intro q hq
        rcases hlr3 q hq with h | h
        · exact hor q h
        · simp at h; omega
    · have et : tk f (i + 1) = tk f i := by simp only [tk]; rw [if_neg hr]
      simp [-ofOR, ofOR_val, spreadLoop, spreadP, spreadST, Tryz.f170, hi1, w1, hlen, hlen1, N0, N1, l0, modify_end, hra, hr]
      exact ⟨k - 1, by omega, i + 1, by omega, d, out, ⟨rfl, by omega⟩, rfl, by rw [et]; exact hd.keep fun q hq => List.getElem?_append_left (hd.ref.2.2 q hq), by rw [et]; exact ho.keep fun q hq => List.getElem?_append_left (ho.ref.2.2 q hq), hdr, hor⟩
  · have : i = n := by omega
    subst this
    simp [spreadLoop, spreadP, Tryz.f170]
    exact hQ _ _ _ (by simp [spreadP]) hm ho hor
set_option maxHeartbeats 4000000 in
theorem spreadL_ok : SumOk Tryz.prog 170 spreadLS := by
  refine sum_mem (L := fun _ => none) (n := 300) (S := stOf spreadST) drawS Tryz.T_ok (stOf_ok (by simp [spreadST, fineL_ok, raises_ok])) Tryz.func170 rfl (by kernel_rfl) (by kernel_rfl) ?_
  intro args env nxt h
  unfold spreadLS at h ⊢
  split at h
  · rename_i p o1 n c
    split at h
    · rename_i n' f hl
      split at h
      · rename_i hc
        obtain ⟨h0, hn, hF⟩ := id hc
        simp only [if_pos hc]
        obtain ⟨rfl, hnc, items, ty, hp, hr, ⟨o, F, hrow, hf⟩, hload⟩ := listE_slice hl
        have hE := listE_own hrow hf hnc
        refine ⟨_, _, _, laid1 [.slice 0 o1 n' c] rfl (by simp) hp hr, ?_⟩
        have hn2 : ¬ (256 : Int) < n' := by omega
        have hcf : (n' ≤ 256 ∧ ∀ j, j < n' * 3 → PtN (f j)) = True := eq_true ⟨hn, hF⟩
        simp [-loopA_succ, Tryz.f170, spreadST, fineLS, hE, hcf, hn2]
        simp only [good_bind, good_unblock]
        refine spread_loop (c := c) hn hF hload (fun ts m out hfit hm hla hor => ?_) ?_ ?_ ?_
        · obtain ⟨g, rfl⟩ := fits_of hfit 0
          obtain ⟨q, cc, rfl, hq⟩ := IB_get hla (tk_pos h0)
          have hlen : 0 < m.length := (List.getElem?_eq_some_iff.1 hm).1
          have hq2 := hor q (by simp [refs])
          simp [spreadP]
          refine ⟨[q], none, .inr ⟨_, ⟨cc, rfl⟩, ?_⟩⟩
          exact told_one (by simpa using by omega) hq (fun i hi => by
            have : i = 0 := by simpa using hi
            subst this
            exact hm) rfl (by simp [AV.ren, renL, glob, show ¬ q = 0 by omega]) (by simp [refs, refsL]) (by simp) (fun i hi => by
            have : i = 0 := by simpa using hi
            subst this
            exact hr)
        · rfl
        · rfl
        · simp [spreadP]
      · simp [*] at h
    · simp [*] at h
  · simp at h
end Go.X
end

section
namespace Go.X
open Go.Proofs
attribute [local irreducible] Good
def Four (f : Nat → Int) (i : Nat) : Prop := ∃ i' k' j', 1 ≤ j' ∧ j' < k' ∧ k' < i' ∧ i' < i ∧ dtP (ptF f 0) (ptF f j') (ptF f k') (ptF f i') ≠ 0
def Four2 (f : Nat → Int) (i k : Nat) : Prop := ∃ k' j', 1 ≤ j' ∧ j' < k' ∧ k' < k ∧ dtP (ptF f 0) (ptF f j') (ptF f k') (ptF f i) ≠ 0
def Four3 (f : Nat → Int) (i k j : Nat) : Prop := ∃ j', 1 ≤ j' ∧ j' < j ∧ dtP (ptF f 0) (ptF f j') (ptF f k) (ptF f i) ≠ 0
end Go.X
end

section
namespace Go.X
theorem det_dot {a b c x y z u v w : Int} : dtI a b c x y z u v w = crX a b c x y z * u + crY a b c x y z * v + crZ a b c x y z * w := by unfold dtI crX crY crZ; grind
theorem det_span {n0 n1 n2 a b c x y z u v w : Int} (h1 : n0 * a + n1 * b + n2 * c = 0) (h2 : n0 * x + n1 * y + n2 * z = 0) (h3 : n0 * u + n1 * v + n2 * w = 0) (hn : ¬ (n0 = 0 ∧ n1 = 0 ∧ n2 = 0)) : dtI a b c x y z u v w = 0 := by
  have e0 : dtI a b c x y z u v w * n0 = (n0 * a + n1 * b + n2 * c) * crX x y z u v w + (n0 * x + n1 * y + n2 * z) * crX u v w a b c + (n0 * u + n1 * v + n2 * w) * crX a b c x y z := by unfold dtI crX crY crZ; grind
  have e1 : dtI a b c x y z u v w * n1 = (n0 * a + n1 * b + n2 * c) * crY x y z u v w + (n0 * x + n1 * y + n2 * z) * crY u v w a b c + (n0 * u + n1 * v + n2 * w) * crY a b c x y z := by unfold dtI crX crY crZ; grind
  have e2 : dtI a b c x y z u v w * n2 = (n0 * a + n1 * b + n2 * c) * crZ x y z u v w + (n0 * x + n1 * y + n2 * z) * crZ u v w a b c + (n0 * u + n1 * v + n2 * w) * crZ a b c x y z := by unfold dtI crX crY crZ; grind
  rw [h1, h2, h3] at e0 e1 e2
  simp only [Int.zero_mul, Int.add_zero] at e0 e1 e2
  rcases Int.mul_eq_zero.1 e0 with h | h
  · exact h
  · rcases Int.mul_eq_zero.1 e1 with h' | h'
    · exact h'
    · rcases Int.mul_eq_zero.1 e2 with h'' | h''
      · exact h''
      · exact absurd ⟨h, h', h''⟩ hn
theorem cr_line {a b c x y z u v w : Int} (hn : ¬ (a = 0 ∧ b = 0 ∧ c = 0)) (h1 : crX a b c x y z = 0 ∧ crY a b c x y z = 0 ∧ crZ a b c x y z = 0) (h2 : crX a b c u v w = 0 ∧ crY a b c u v w = 0 ∧ crZ a b c u v w = 0) : crX x y z u v w = 0 ∧ crY x y z u v w = 0 ∧ crZ x y z u v w = 0 := by
  have key : ∀ t, (t = a ∨ t = b ∨ t = c) → t * crX x y z u v w = 0 ∧ t * crY x y z u v w = 0 ∧ t * crZ x y z u v w = 0 := by
    unfold crX crY crZ at *
    obtain ⟨h11, h12, h13⟩ := h1
    obtain ⟨h21, h22, h23⟩ := h2
    rintro t (rfl | rfl | rfl) <;> refine ⟨?_, ?_, ?_⟩ <;> grind
  have fin : ∀ t, t ≠ 0 → (t = a ∨ t = b ∨ t = c) → crX x y z u v w = 0 ∧ crY x y z u v w = 0 ∧ crZ x y z u v w = 0 := by
    intro t ht hk
    obtain ⟨k1, k2, k3⟩ := key t hk
    exact ⟨(Int.mul_eq_zero.1 k1).resolve_left ht, (Int.mul_eq_zero.1 k2).resolve_left ht, (Int.mul_eq_zero.1 k3).resolve_left ht⟩
  by_cases ha : a = 0
  · by_cases hb : b = 0
    · by_cases hc : c = 0
      · exact absurd ⟨ha, hb, hc⟩ hn
      · exact fin c hc (.inr (.inr rfl))
    · exact fin b hb (.inr (.inl rfl))
  · exact fin a ha (.inl rfl)
structure Taken (f : Nat → Int) (k : Nat) (m : Nat) (F : Nat → Int) : Prop where
  one : 0 < m → ∀ j, j < 3 → F j = f j
  two : 1 < m → (∃ a, 1 ≤ a ∧ a < k ∧ ∀ j, j < 3 → F (3 + j) = f (a * 3 + j)) ∧ ¬ (F 3 = F 0 ∧ F 4 = F 1 ∧ F 5 = F 2)
  three : 2 < m → (∃ a b, 1 ≤ a ∧ a < b ∧ b < k ∧ (∀ j, j < 3 → F (3 + j) = f (a * 3 + j)) ∧ ∀ j, j < 3 → F (6 + j) = f (b * 3 + j)) ∧ ¬ lnP (ptF F 0) (ptF F 1) (ptF F 2)
  four : m = 4 → Four f k
  all1 : m = 1 → ∀ i, i < k → ptF f i 0 = F 0 ∧ ptF f i 1 = F 1 ∧ ptF f i 2 = F 2
  all2 : m = 2 → ∀ i, i < k → lnP (ptF F 0) (ptF F 1) (ptF f i)
  all3 : m = 3 → ∀ i, i < k → dtP (ptF F 0) (ptF F 1) (ptF F 2) (ptF f i) = 0
theorem Four.up {f : Nat → Int} {i k : Nat} (h : Four f i) (hk : i ≤ k) : Four f k := by
  obtain ⟨a, b, c, h1, h2, h3, h4, h5⟩ := h
  exact ⟨a, b, c, h1, h2, h3, by omega, h5⟩
theorem ln_congr {p q r p' q' r' : Nat → Int} (h1 : ∀ j, j < 3 → p j = p' j) (h2 : ∀ j, j < 3 → q j = q' j) (h3 : ∀ j, j < 3 → r j = r' j) : lnP p q r ↔ lnP p' q' r' := by
  unfold lnP
  rw [h1 0 (by decide), h1 1 (by decide), h1 2 (by decide), h2 0 (by decide), h2 1 (by decide), h2 2 (by decide), h3 0 (by decide), h3 1 (by decide), h3 2 (by decide)]
theorem dt_congr {p q r s p' q' r' s' : Nat → Int} (h1 : ∀ j, j < 3 → p j = p' j) (h2 : ∀ j, j < 3 → q j = q' j) (h3 : ∀ j, j < 3 → r j = r' j) (h4 : ∀ j, j < 3 → s j = s' j) : dtP p q r s = dtP p' q' r' s' := by
  unfold dtP
  rw [h1 0 (by decide), h1 1 (by decide), h1 2 (by decide), h2 0 (by decide), h2 1 (by decide), h2 2 (by decide), h3 0 (by decide), h3 1 (by decide), h3 2 (by decide), h4 0 (by decide), h4 1 (by decide), h4 2 (by decide)]
theorem ln_self {p q : Nat → Int} : lnP p q q := by unfold lnP crX crY crZ; refine ⟨?_, ?_, ?_⟩ <;> grind
theorem ln_first {p q r : Nat → Int} (h : ∀ j, j < 3 → r j = p j) : lnP p q r := by
  unfold lnP crX crY crZ
  rw [h 0 (by decide), h 1 (by decide), h 2 (by decide)]
  refine ⟨?_, ?_, ?_⟩ <;> grind
theorem dt_line {p q r s : Nat → Int} (h : lnP p q s) : dtP p q r s = 0 := by
  unfold lnP at h
  obtain ⟨h1, h2, h3⟩ := h
  have e : ∀ {a b c x y z u v w : Int}, dtI a b c x y z u v w = -(crX a b c u v w * x + crY a b c u v w * y + crZ a b c u v w * z) := by
    intros; unfold dtI crX crY crZ; grind
  unfold dtP
  rw [e, h1, h2, h3]
  simp
theorem dt_last {p q r s : Nat → Int} (h : ∀ j, j < 3 → r j = s j) : dtP p q r s = 0 := by
  unfold dtP dtI crX crY crZ
  rw [h 0 (by decide), h 1 (by decide), h 2 (by decide)]
  grind
theorem tk_taken (f : Nat → Int) : ∀ k, Taken f k (tk f k).1 (tk f k).2.1
  | 0 => ⟨by simp [tk], by simp [tk], by simp [tk], by simp [tk], by simp [tk], by simp [tk], by simp [tk]⟩
  | k + 1 => by
    have ih := tk_taken f k
    have hle := tk_le f k
    obtain ⟨m, hm⟩ : ∃ m, (tk f k).1 = m := ⟨_, rfl⟩
    obtain ⟨F, hF⟩ : ∃ F, (tk f k).2.1 = F := ⟨_, rfl⟩
    rw [hm, hF] at ih
    rw [hm] at hle
    by_cases hr : Raise (tk f k).1 (tk f k).2.1 (ptF f k)
    · have e : tk f (k + 1) = ((tk f k).1 + 1, (fun j => if j < (tk f k).1 * 3 then (tk f k).2.1 j else f (k * 3 + (j - (tk f k).1 * 3))), fun j => if j < (tk f k).1 then (tk f k).2.2 j else (k : Int)) := by simp only [tk]; rw [if_pos hr]
      rw [e]
      rw [hm, hF] at hr ⊢
      simp only
      have lo : ∀ j, j < m * 3 → (fun j => if j < m * 3 then F j else f (k * 3 + (j - m * 3))) j = F j := fun j hj => if_pos hj
      have hi : ∀ j, (fun j => if j < m * 3 then F j else f (k * 3 + (j - m * 3))) (m * 3 + j) = f (k * 3 + j) := fun j => by
        simp only
        rw [if_neg (by omega), show m * 3 + j - m * 3 = j by omega]
      obtain ⟨G, hG⟩ : ∃ G, (fun j => if j < m * 3 then F j else f (k * 3 + (j - m * 3))) = G := ⟨_, rfl⟩
      rw [hG] at lo hi ⊢
      rcases hr with h0 | ⟨h1, hne⟩ | ⟨h2, hnl⟩ | ⟨h3, hnd⟩
      · have k0 : k = 0 := by
          rcases Nat.eq_zero_or_pos k with h | h
          · exact h
          · have := tk_pos (f := f) h; omega
        subst k0 h0
        refine ⟨fun _ j hj => ?_, by simp, by simp, by simp, fun _ i hi' => ?_, by simp, by simp⟩
        · simpa using hi j
        · have : i = 0 := by omega
          subst this
          have g0 := hi 0
          have g1 := hi 1
          have g2 := hi 2
          simp at g0 g1 g2
          simp [ptF, g0, g1, g2]
      · subst h1
        have kp : 1 ≤ k := by
          rcases Nat.eq_zero_or_pos k with h | h
          · subst h; simp [tk] at hm
          · exact h
        refine ⟨fun _ j hj => by rw [lo j (by omega)]; exact ih.one (by decide) j hj, fun _ => ⟨⟨k, kp, by omega, fun j hj => hi j⟩, ?_⟩, by simp, by simp, by simp, fun _ i hik => ?_, by simp⟩
        · have g0 := hi 0
          have g1 := hi 1
          have g2 := hi 2
          simp only [Nat.one_mul, Nat.add_zero] at g0 g1 g2
          rw [g0, g1, g2, lo 0 (by decide), lo 1 (by decide), lo 2 (by decide)]
          simpa [ptF] using hne
        · by_cases hk : i = k
          · subst hk
            refine (ln_congr (fun j _ => rfl) (fun j _ => ?_) fun j _ => rfl).2 (ln_self (p := ptF G 0) (q := ptF f i))
            have := hi j
            simpa [ptF] using this
          · obtain ⟨a1, a2, a3⟩ := ih.all1 rfl i (by omega)
            refine ln_first fun j hj => ?_
            have : j = 0 ∨ j = 1 ∨ j = 2 := by omega
            rcases this with rfl | rfl | rfl
            · rw [a1]; simp [ptF, lo 0]
            · rw [a2]; simp [ptF, lo 1]
            · rw [a3]; simp [ptF, lo 2]
      · subst h2
        obtain ⟨⟨a, a1, a2, a3⟩, a4⟩ := ih.two (by decide)
        have g0 : ∀ j, j < 3 → ptF G 0 j = ptF F 0 j := fun j hj => by simp only [ptF, Nat.zero_mul, Nat.zero_add]; exact lo j (by omega)
        have g1 : ∀ j, j < 3 → ptF G 1 j = ptF F 1 j := fun j hj => by simp only [ptF, Nat.one_mul]; exact lo _ (by omega)
        have g2 : ∀ j, j < 3 → ptF G 2 j = ptF f k j := fun j hj => by simp only [ptF]; exact hi j
        refine ⟨fun _ j hj => by rw [lo j (by omega)]; exact ih.one (by decide) j hj, fun _ => ⟨⟨a, a1, by omega, fun j hj => by rw [lo _ (by omega)]; exact a3 j hj⟩, by rw [lo 3 (by decide), lo 4 (by decide), lo 5 (by decide), lo 0 (by decide), lo 1 (by decide), lo 2 (by decide)]; exact a4⟩,
          fun _ => ⟨⟨a, k, a1, a2, by omega, fun j hj => by rw [lo _ (by omega)]; exact a3 j hj, fun j hj => hi j⟩, fun h => hnl ((ln_congr g0 g1 g2).1 h)⟩, by simp, by simp, by simp, fun _ i hik => ?_⟩
        by_cases hk : i = k
        · subst hk
          exact dt_last fun j hj => (g2 j hj)
        · refine dt_line ?_
          exact (ln_congr g0 g1 fun j _ => rfl).2 (ih.all2 rfl i (by omega))
      · subst h3
        obtain ⟨⟨a, b, a1, a2, a3, a4, a5⟩, a6⟩ := ih.three (by decide)
        obtain ⟨-, a7⟩ := ih.two (by decide)
        refine ⟨fun _ j hj => by rw [lo j (by omega)]; exact ih.one (by decide) j hj, fun _ => ⟨⟨a, a1, by omega, fun j hj => by rw [lo _ (by omega)]; exact a4 j hj⟩, by rw [lo 3 (by decide), lo 4 (by decide), lo 5 (by decide), lo 0 (by decide), lo 1 (by decide), lo 2 (by decide)]; exact a7⟩,
          fun _ => ⟨⟨a, b, a1, a2, by omega, fun j hj => by rw [lo _ (by omega)]; exact a4 j hj, fun j hj => by rw [lo _ (by omega)]; exact a5 j hj⟩, fun h => a6 ?_⟩, fun _ => ⟨k, b, a, a1, a2, a3, by omega, ?_⟩, by simp, by simp, by simp⟩
        · refine (ln_congr (fun j hj => ?_) (fun j hj => ?_) fun j hj => ?_).1 h <;> simp only [ptF] <;> exact lo _ (by omega)
        · rw [← dt_congr (p := ptF F 0) (q := ptF F 1) (r := ptF F 2) (s := ptF f k) (fun j hj => ?_) (fun j hj => ?_) (fun j hj => ?_) fun j _ => rfl]
          · exact hnd
          · simp only [ptF, Nat.zero_mul, Nat.zero_add]; exact ih.one (by decide) j hj
          · simp only [ptF, Nat.one_mul]; exact a4 j hj
          · simp only [ptF]; exact a5 j hj
    · have e : tk f (k + 1) = tk f k := by simp only [tk]; rw [if_neg hr]
      rw [e]
      rw [hm, hF] at hr ⊢
      refine ⟨ih.one, fun h => ?_, fun h => ?_, fun h => (ih.four h).up (by omega), fun h i hik => ?_, fun h i hik => ?_, fun h i hik => ?_⟩
      · obtain ⟨⟨a, a1, a2, a3⟩, a4⟩ := ih.two h
        exact ⟨⟨a, a1, by omega, a3⟩, a4⟩
      · obtain ⟨⟨a, b, a1, a2, a3, a4⟩, a5⟩ := ih.three h
        exact ⟨⟨a, b, a1, a2, by omega, a4⟩, a5⟩
      · by_cases hk : i = k
        · subst hk
          exact Classical.byContradiction fun q => hr (.inr (.inl ⟨h, by simpa [ptF] using q⟩))
        · exact ih.all1 h i (by omega)
      · by_cases hk : i = k
        · subst hk
          exact Classical.byContradiction fun q => hr (.inr (.inr (.inl ⟨h, q⟩)))
        · exact ih.all2 h i (by omega)
      · by_cases hk : i = k
        · subst hk
          exact Classical.byContradiction fun q => hr (.inr (.inr (.inr ⟨h, q⟩)))
        · exact ih.all3 h i (by omega)
theorem tk_four {f : Nat → Int} {n : Nat} : (tk f n).1 = 4 ↔ Four f n := by
  have ht := tk_taken f n
  have hle := (tk_le f n).2
  refine ⟨ht.four, fun hf => ?_⟩
  obtain ⟨i, k, j, h1, h2, h3, h4, h5⟩ := hf
  have hpos := tk_pos (f := f) (k := n) (by omega)
  obtain ⟨m, hm⟩ : ∃ m, (tk f n).1 = m := ⟨_, rfl⟩
  obtain ⟨F, hF⟩ : ∃ F, (tk f n).2.1 = F := ⟨_, rfl⟩
  rw [hm, hF] at ht
  rw [hm] at hle hpos ⊢
  have f0 : ∀ j, j < 3 → ptF F 0 j = ptF f 0 j := fun j hj => by simp only [ptF, Nat.zero_mul, Nat.zero_add]; exact ht.one hpos j hj
  have z0 := f0 0 (by decide)
  have z1 := f0 1 (by decide)
  have z2 := f0 2 (by decide)
  have : m = 1 ∨ m = 2 ∨ m = 3 ∨ m = 4 := by omega
  rcases this with h | h | h | h
  · exfalso
    apply h5
    obtain ⟨a1, a2, a3⟩ := ht.all1 h i h4
    obtain ⟨b1, b2, b3⟩ := ht.all1 h k (by omega)
    obtain ⟨c1, c2, c3⟩ := ht.all1 h 0 (by omega)
    unfold dtP
    rw [a1, a2, a3, b1, b2, b3, c1, c2, c3]
    unfold dtI crX crY crZ
    grind
  · exfalso
    apply h5
    obtain ⟨-, hne⟩ := ht.two (by omega)
    have hu : ¬ (ptF F 1 0 - ptF F 0 0 = 0 ∧ ptF F 1 1 - ptF F 0 1 = 0 ∧ ptF F 1 2 - ptF F 0 2 = 0) := by
      intro ⟨q1, q2, q3⟩
      have q4 : F 3 - F 0 = 0 := q1
      have q5 : F 4 - F 1 = 0 := q2
      have q6 : F 5 - F 2 = 0 := q3
      exact hne ⟨by omega, by omega, by omega⟩
    have a := ht.all2 h i h4
    have b := ht.all2 h k (by omega)
    have c := cr_line hu b a
    unfold dtP dtI
    rw [← z0, ← z1, ← z2, c.1, c.2.1, c.2.2]
    simp
  · exfalso
    apply h5
    obtain ⟨-, hnl⟩ := ht.three (by omega)
    have a := ht.all3 h i h4
    have b := ht.all3 h k (by omega)
    have c := ht.all3 h j (by omega)
    unfold dtP at a b c ⊢
    rw [det_dot] at a b c
    unfold lnP at hnl
    rw [← z0, ← z1, ← z2]
    exact det_span c b a hnl
  · exact h
end Go.X
end

section
namespace Go.X
open Go.Proofs
attribute [local irreducible] Good
noncomputable def ofLS : Sum := fun args env _ => match args with
  | [.slice p o1 n0 c] => match listE env (.slice p o1 n0 c) with
    | some (n, f) => open Classical in if 0 < n ∧ n ≤ 256 ∧ (∀ j, j < n * 3 → PtN (f j)) then (if Four f n then .val (.int .i64 3) [] [] else .any fun r => .val (.int .i64 ((r % 3 : Nat) : Int)) [] []) else .fail
    | none => .fail
  | _ => .fail
noncomputable def ofST : List (FuncId × Sum) := [(173, pureS r7lineS), (174, pureS r7detS), (142, pureS signS)]
def ofL (i : Nat) : Option DM := if i = 7 then some (.quiet 8) else if i = 12 then some (.quiet 13) else if i = 17 then some (.quiet 18) else none
noncomputable def ofLoop1 : Code := match Tryz.f117.body with | some (.seq _ (.seq _ (.seq _ (.seq (.seq _ (.block _ (.loop c))) _)))) => c | _ => .skip
noncomputable def ofLoop2 : Code := match ofLoop1 with | .seq _ (.seq (.block _ (.seq _ (.seq _ (.block _ (.loop c))))) _) => c | _ => .skip
noncomputable def ofLoop3 : Code := match ofLoop2 with | .seq _ (.seq (.block _ (.seq _ (.seq _ (.block _ (.loop c))))) _) => c | _ => .skip
noncomputable def ofP (l : AV) (q r i k j : Option AV) : List (Option AV) := [some l, none, q, r, i, k, j, none, none, none, none, none, none, none, none, none, none, none, none, none, none, none, none, none, none, none, none, none, none, none, none, none, none, none, none, none, none, none, none, none, none, none, none, none, none, none, none, none, none, none, none, none, none, none, none, none, none, none, none, none, none, none, none, none, none, none, none, none, none, none]
theorem four3_next {f : Nat → Int} {i k j : Nat} : Four3 f i k (j + 1) ↔ Four3 f i k j ∨ (1 ≤ j ∧ dtP (ptF f 0) (ptF f j) (ptF f k) (ptF f i) ≠ 0) := by
  constructor
  · rintro ⟨j', h1, h2, h3⟩
    by_cases h : j' = j
    · subst h; exact .inr ⟨h1, h3⟩
    · exact .inl ⟨j', h1, by omega, h3⟩
  · rintro (⟨j', h1, h2, h3⟩ | ⟨h1, h3⟩)
    · exact ⟨j', h1, by omega, h3⟩
    · exact ⟨j, h1, by omega, h3⟩
theorem four2_next {f : Nat → Int} {i k : Nat} : Four2 f i (k + 1) ↔ Four2 f i k ∨ Four3 f i k k := by
  constructor
  · rintro ⟨k', j', h1, h2, h3, h4⟩
    by_cases h : k' = k
    · subst h; exact .inr ⟨j', h1, h2, h4⟩
    · exact .inl ⟨k', j', h1, h2, by omega, h4⟩
  · rintro (⟨k', j', h1, h2, h3, h4⟩ | ⟨j', h1, h2, h4⟩)
    · exact ⟨k', j', h1, h2, by omega, h4⟩
    · exact ⟨k, j', h1, h2, by omega, h4⟩
theorem four2_up {f : Nat → Int} {i k l : Nat} (h : Four2 f i k) (hl : k ≤ l) : Four2 f i l := by
  obtain ⟨k', j', h1, h2, h3, h4⟩ := h
  exact ⟨k', j', h1, h2, by omega, h4⟩
theorem four_next {f : Nat → Int} {i : Nat} : Four f (i + 1) ↔ Four f i ∨ Four2 f i i := by
  constructor
  · rintro ⟨i', k', j', h1, h2, h3, h4, h5⟩
    by_cases h : i' = i
    · subst h; exact .inr ⟨k', j', h1, h2, h3, h5⟩
    · exact .inl ⟨i', k', j', h1, h2, h3, by omega, h5⟩
  · rintro (⟨i', k', j', h1, h2, h3, h4, h5⟩ | ⟨k', j', h1, h2, h3, h5⟩)
    · exact ⟨i', k', j', h1, h2, h3, by omega, h5⟩
    · exact ⟨i, k', j', h1, h2, h3, by omega, h5⟩
theorem pt_facts {n : Nat} {f : Nat → Int} (hF : ∀ j, j < n * 3 → PtN (f j)) {t : Nat} (ht : t < n) : PtN (f (t * 3)) ∧ PtN (f (t * 3 + 1)) ∧ PtN (f (t * 3 + 2)) := ⟨hF _ (by omega), hF _ (by omega), hF _ (by omega)⟩
set_option maxHeartbeats 40000000 in
set_option maxRecDepth 100000 in
theorem of_loop3 {B : Blk} {o1 n c i k : Nat} {f : Nat → Int} {r : Int} (hn : n ≤ 256) (hin : i < n) (hki : k < i) (hF : ∀ j, j < n * 3 → PtN (f j))
    (hload : ∀ i, i < n → ∀ fs z q, loadB ⟨.struct fs, 3, z, q⟩ B (o1 + i * 3) = some (.agg [.int .i64 (f (i * 3)), .int .i64 (f (i * 3 + 1)), .int .i64 (f (i * 3 + 2))])) {Q : Ex → St → Prop}
    (hQ1 : ∀ (ts : List AV), ¬ Four3 f i k k → Fits (ofP (.slice 0 o1 n c) none (some (.int .i64 r)) (some (.int .i64 i)) (some (.int .i64 k)) none) ts → Q (.exit 4) ⟨ts, [B], []⟩)
    (hQ2 : ∀ (ts : List AV), Four3 f i k k → Fits (ofP (.slice 0 o1 n c) (some (.int .i64 3)) none none none none) ts → Q .ret ⟨ts, [B], []⟩)
    {ts : List AV} (h0 : Fits (ofP (.slice 0 o1 n c) none (some (.int .i64 r)) (some (.int .i64 i)) (some (.int .i64 k)) (some (.int .i64 1))) ts) (k0 : 1 ≤ k) :
    Good (loopA (exec Tryz.T (stOf ofST) ofL 300 ofLoop3) 300 ⟨ts, [B], []⟩) Q := by
  refine loop_rule (fun x s => ∃ j : Nat, j + x = k ∧ 1 ≤ j ∧ ¬ Four3 f i k j ∧ Fits (ofP (.slice 0 o1 n c) none (some (.int .i64 r)) (some (.int .i64 i)) (some (.int .i64 k)) (some (.int .i64 j))) s.ts ∧ s.m = [B] ∧ s.df = []) ?_ 300 (k - 1) _ (by omega) ⟨1, by omega, by omega, by rintro ⟨j', h1, h2, -⟩; omega, h0, rfl, rfl⟩
  rintro x ⟨ts, m, df⟩ ⟨j, hjx, hj1, hno, hfit, hm, hd⟩
  simp only at hfit hm hd
  subst hd hm
  obtain ⟨g, rfl⟩ := fits_of hfit 0
  by_cases hjk : j < k
  · have a1 : (j : Int) < k := by omega
    have a2 : j < n := by omega
    have a3 : k < n := by omega
    have a4 : 0 < n := by omega
    have b1 : (j : Int) < n := by omega
    have b2 : (k : Int) < n := by omega
    have b3 : (i : Int) < n := by omega
    have w1 : IntKind.i64.wrap ((j : Int) + 1) = j + 1 := wrap_i64_in (by omega) (by omega)
    have l0 : ∀ fs z q, loadB ⟨.struct fs, 3, z, q⟩ B o1 = some (.agg [.int .i64 (f 0), .int .i64 (f 1), .int .i64 (f 2)]) := fun fs z q => by simpa using hload 0 a4 fs z q
    have li := hload i hin
    have lk := hload k a3
    have lj := hload j a2
    obtain ⟨p0, p1, p2⟩ : PtN (f 0) ∧ PtN (f 1) ∧ PtN (f 2) := by simpa using pt_facts hF a4
    obtain ⟨q0, q1, q2⟩ := pt_facts hF hin
    obtain ⟨r0, r1, r2⟩ := pt_facts hF a3
    obtain ⟨s0, s1, s2⟩ := pt_facts hF a2
    have kw := det_w (s0.sub p0) (s1.sub p1) (s2.sub p2) (r0.sub p0) (r1.sub p1) (r2.sub p2) (q0.sub p0) (q1.sub p1) (q2.sub p2)
    have e0 : dtP (ptF f 0) (ptF f j) (ptF f k) (ptF f i) = dtI (f (j * 3) - f 0) (f (j * 3 + 1) - f 1) (f (j * 3 + 2) - f 2) (f (k * 3) - f 0) (f (k * 3 + 1) - f 1) (f (k * 3 + 2) - f 2) (f (i * 3) - f 0) (f (i * 3 + 1) - f 1) (f (i * 3 + 2) - f 2) := by simp [dtP, ptF]
    by_cases hd : dtI (f (j * 3) - f 0) (f (j * 3 + 1) - f 1) (f (j * 3 + 2) - f 2) (f (k * 3) - f 0) (f (k * 3 + 1) - f 1) (f (k * 3 + 2) - f 2) (f (i * 3) - f 0) (f (i * 3 + 1) - f 1) (f (i * 3 + 2) - f 2) = 0
    · simp (maxSteps := 10000000) [ofLoop3, ofLoop2, ofLoop1, ofP, ofL, ofST, Tryz.f117, a1, a4, b1, b2, b3, w1, ↓l0, ↓li, ↓lk, ↓lj, p0.in, p1.in, p2.in, q0.in, q1.in, q2.in, r0.in, r1.in, r2.in, s0.in, s1.in, s2.in, s0.sub p0, s1.sub p1, s2.sub p2, r0.sub p0, r1.sub p1, r2.sub p2, q0.sub p0, q1.sub p1, q2.sub p2, R8_limb, hd]
      exact ⟨x - 1, by omega, j + 1, by omega, by omega, fun h => by
        rcases four3_next.1 h with h | h
        · exact hno h
        · exact h.2 (e0.trans hd), by omega⟩
    · simp (maxSteps := 10000000) [ofLoop3, ofLoop2, ofLoop1, ofP, ofL, ofST, Tryz.f117, a1, a4, b1, b2, b3, ↓l0, ↓li, ↓lk, ↓lj, p0.in, p1.in, p2.in, q0.in, q1.in, q2.in, r0.in, r1.in, r2.in, s0.in, s1.in, s2.in, s0.sub p0, s1.sub p1, s2.sub p2, r0.sub p0, r1.sub p1, r2.sub p2, q0.sub p0, q1.sub p1, q2.sub p2, R8_limb, sval_limb kw, sgn_beq.2, hd]
      exact hQ2 _ ⟨j, hj1, hjk, by rw [e0]; exact hd⟩ (by simp [ofP])
  · have : j = k := by omega
    subst this
    simp [ofLoop3, ofLoop2, ofLoop1, ofP, Tryz.f117]
    exact hQ1 _ hno (by simp [ofP])
set_option maxHeartbeats 40000000 in
set_option maxRecDepth 100000 in
theorem of_loop2 {B : Blk} {o1 n c i : Nat} {f : Nat → Int} {r : Int} (hn : n ≤ 256) (hin : i < n) (hF : ∀ j, j < n * 3 → PtN (f j)) (hr : 0 ≤ r ∧ r ≤ 2)
    (hload : ∀ i, i < n → ∀ fs z q, loadB ⟨.struct fs, 3, z, q⟩ B (o1 + i * 3) = some (.agg [.int .i64 (f (i * 3)), .int .i64 (f (i * 3 + 1)), .int .i64 (f (i * 3 + 2))])) {Q : Ex → St → Prop}
    (hQ1 : ∀ (ts : List AV) (r : Int), 0 ≤ r ∧ r ≤ 2 → ¬ Four2 f i i → Fits (ofP (.slice 0 o1 n c) none (some (.int .i64 r)) (some (.int .i64 i)) none none) ts → Q (.exit 2) ⟨ts, [B], []⟩)
    (hQ2 : ∀ (ts : List AV), Four2 f i i → Fits (ofP (.slice 0 o1 n c) (some (.int .i64 3)) none none none none) ts → Q .ret ⟨ts, [B], []⟩)
    {ts : List AV} (h0 : Fits (ofP (.slice 0 o1 n c) none (some (.int .i64 r)) (some (.int .i64 i)) (some (.int .i64 1)) none) ts) (i0 : 1 ≤ i) :
    Good (loopA (exec Tryz.T (stOf ofST) ofL 300 ofLoop2) 300 ⟨ts, [B], []⟩) Q := by
  refine loop_rule (fun x s => ∃ (k : Nat) (r : Int), k + x = i ∧ 1 ≤ k ∧ (0 ≤ r ∧ r ≤ 2) ∧ ¬ Four2 f i k ∧ Fits (ofP (.slice 0 o1 n c) none (some (.int .i64 r)) (some (.int .i64 i)) (some (.int .i64 k)) none) s.ts ∧ s.m = [B] ∧ s.df = []) ?_ 300 (i - 1) _ (by omega) ⟨1, r, by omega, by omega, hr, by rintro ⟨k', j', h1, h2, h3, -⟩; omega, h0, rfl, rfl⟩
  rintro x ⟨ts, m, df⟩ ⟨k, r, hkx, hk1, hr, hno, hfit, hm, hd⟩
  simp only at hfit hm hd
  subst hd hm
  obtain ⟨g, rfl⟩ := fits_of hfit 0
  by_cases hki : k < i
  · have a1 : (k : Int) < i := by omega
    have a3 : k < n := by omega
    have a4 : 0 < n := by omega
    have b2 : (k : Int) < n := by omega
    have b3 : (i : Int) < n := by omega
    have w1 : IntKind.i64.wrap ((k : Int) + 1) = k + 1 := wrap_i64_in (by omega) (by omega)
    have l0 : ∀ fs z q, loadB ⟨.struct fs, 3, z, q⟩ B o1 = some (.agg [.int .i64 (f 0), .int .i64 (f 1), .int .i64 (f 2)]) := fun fs z q => by simpa using hload 0 a4 fs z q
    have li := hload i hin
    have lk := hload k a3
    obtain ⟨p0, p1, p2⟩ : PtN (f 0) ∧ PtN (f 1) ∧ PtN (f 2) := by simpa using pt_facts hF a4
    obtain ⟨q0, q1, q2⟩ := pt_facts hF hin
    obtain ⟨r0, r1, r2⟩ := pt_facts hF a3
    have key : ∀ (P : Prop) [Decidable P] (r' : Int), (0 ≤ r' ∧ r' ≤ 2) → True := fun _ _ _ _ => trivial
    have m2 : 0 ≤ (if r < 2 then 2 else r) ∧ (if r < 2 then 2 else r) ≤ 2 := by split <;> omega
    by_cases hl : crX (f (k * 3) - f 0) (f (k * 3 + 1) - f 1) (f (k * 3 + 2) - f 2) (f (i * 3) - f 0) (f (i * 3 + 1) - f 1) (f (i * 3 + 2) - f 2) = 0 ∧ crY (f (k * 3) - f 0) (f (k * 3 + 1) - f 1) (f (k * 3 + 2) - f 2) (f (i * 3) - f 0) (f (i * 3 + 1) - f 1) (f (i * 3 + 2) - f 2) = 0 ∧ crZ (f (k * 3) - f 0) (f (k * 3 + 1) - f 1) (f (k * 3 + 2) - f 2) (f (i * 3) - f 0) (f (i * 3 + 1) - f 1) (f (i * 3 + 2) - f 2) = 0
    · have hlt := eq_true hl
      simp (maxSteps := 10000000) [-loopA_succ, ofLoop2, ofLoop1, ofP, ofL, ofST, Tryz.f117, a1, a4, b2, b3, ↓l0, ↓li, ↓lk, p0.in, p1.in, p2.in, q0.in, q1.in, q2.in, r0.in, r1.in, r2.in, r0.sub p0, r1.sub p1, r2.sub p2, q0.sub p0, q1.sub p1, q2.sub p2, hlt]
      simp only [good_bind, good_unblock]
      refine of_loop3 (B := B) (c := c) (r := r) hn hin hki hF hload (fun ts hn3 hfit => ?_) (fun ts h3 hfit => ?_) ?_ hk1
      · obtain ⟨g, rfl⟩ := fits_of hfit 0
        simp [ofP, w1]
        exact ⟨x - 1, by omega, k + 1, by omega, by omega, r, hr, fun h => by
          rcases four2_next.1 h with h | h
          · exact hno h
          · exact hn3 h, rfl, by omega⟩
      · exact hQ2 _ (four2_up (four2_next.2 (.inr h3)) (by omega)) hfit
      · simp [ofP]
    · have hlt := eq_false hl
      simp (maxSteps := 10000000) [-loopA_succ, ofLoop2, ofLoop1, ofP, ofL, ofST, Tryz.f117, a1, a4, b2, b3, ↓l0, ↓li, ↓lk, p0.in, p1.in, p2.in, q0.in, q1.in, q2.in, r0.in, r1.in, r2.in, r0.sub p0, r1.sub p1, r2.sub p2, q0.sub p0, q1.sub p1, q2.sub p2, hlt]
      simp only [good_bind, good_unblock]
      refine of_loop3 (B := B) (c := c) (r := if r < 2 then 2 else r) hn hin hki hF hload (fun ts hn3 hfit => ?_) (fun ts h3 hfit => ?_) ?_ hk1
      · obtain ⟨g, rfl⟩ := fits_of hfit 0
        simp [ofP, w1]
        exact ⟨x - 1, by omega, k + 1, by omega, by omega, _, m2, fun h => by
          rcases four2_next.1 h with h | h
          · exact hno h
          · exact hn3 h, rfl, by omega⟩
      · exact hQ2 _ (four2_up (four2_next.2 (.inr h3)) (by omega)) hfit
      · simp [ofP]
  · have : k = i := by omega
    subst this
    simp [-loopA_succ, ofLoop2, ofLoop1, ofP, Tryz.f117]
    exact hQ1 _ r hr hno (by simp [ofP])
set_option maxHeartbeats 40000000 in
set_option maxRecDepth 100000 in
theorem of_loop1 {B : Blk} {o1 n c : Nat} {f : Nat → Int} (hn : n ≤ 256) (n0 : 0 < n) (hF : ∀ j, j < n * 3 → PtN (f j))
    (hload : ∀ i, i < n → ∀ fs z q, loadB ⟨.struct fs, 3, z, q⟩ B (o1 + i * 3) = some (.agg [.int .i64 (f (i * 3)), .int .i64 (f (i * 3 + 1)), .int .i64 (f (i * 3 + 2))])) {Q : Ex → St → Prop}
    (hQ1 : ∀ (ts : List AV) (r : Int), 0 ≤ r ∧ r ≤ 2 → ¬ Four f n → Fits (ofP (.slice 0 o1 n c) none (some (.int .i64 r)) none none none) ts → Q (.exit 0) ⟨ts, [B], []⟩)
    (hQ2 : ∀ (ts : List AV), Four f n → Fits (ofP (.slice 0 o1 n c) (some (.int .i64 3)) none none none none) ts → Q .ret ⟨ts, [B], []⟩)
    {ts : List AV} (h0 : Fits (ofP (.slice 0 o1 n c) none (some (.int .i64 0)) (some (.int .i64 1)) none none) ts) :
    Good (loopA (exec Tryz.T (stOf ofST) ofL 300 ofLoop1) 300 ⟨ts, [B], []⟩) Q := by
  refine loop_rule (fun x s => ∃ (i : Nat) (r : Int), i + x = n ∧ 1 ≤ i ∧ (0 ≤ r ∧ r ≤ 2) ∧ ¬ Four f i ∧ Fits (ofP (.slice 0 o1 n c) none (some (.int .i64 r)) (some (.int .i64 i)) none none) s.ts ∧ s.m = [B] ∧ s.df = []) ?_ 300 (n - 1) _ (by omega) ⟨1, 0, by omega, by omega, by omega, by rintro ⟨i', k', j', h1, h2, h3, h4, -⟩; omega, h0, rfl, rfl⟩
  rintro x ⟨ts, m, df⟩ ⟨i, r, hix, hi1, hr, hno, hfit, hm, hd⟩
  simp only at hfit hm hd
  subst hd hm
  obtain ⟨g, rfl⟩ := fits_of hfit 0
  by_cases hin : i < n
  · have b3 : (i : Int) < n := by omega
    have w1 : IntKind.i64.wrap ((i : Int) + 1) = i + 1 := wrap_i64_in (by omega) (by omega)
    have l0 : ∀ fs z q, loadB ⟨.struct fs, 3, z, q⟩ B o1 = some (.agg [.int .i64 (f 0), .int .i64 (f 1), .int .i64 (f 2)]) := fun fs z q => by simpa using hload 0 n0 fs z q
    have li := hload i hin
    have m2 : 0 ≤ (if r < 1 then 1 else r) ∧ (if r < 1 then 1 else r) ≤ 2 := by split <;> omega
    by_cases hl : f (i * 3) = f 0 ∧ f (i * 3 + 1) = f 1 ∧ f (i * 3 + 2) = f 2
    · have hlt := eq_true hl
      simp (maxSteps := 10000000) [-loopA_succ, ofLoop1, ofP, ofL, ofST, Tryz.f117, n0, b3, ↓l0, ↓li, hl.1, hl.2.1, hl.2.2]
      simp only [good_bind, good_unblock]
      refine of_loop2 (B := B) (c := c) (r := r) hn hin hF hr hload (fun ts r hr hn3 hfit => ?_) (fun ts h3 hfit => ?_) ?_ hi1
      · obtain ⟨g, rfl⟩ := fits_of hfit 0
        simp [ofP, w1]
        exact ⟨x - 1, by omega, i + 1, by omega, by omega, r, hr, fun h => by
          rcases four_next.1 h with h | h
          · exact hno h
          · exact hn3 h, rfl, by omega⟩
      · exact hQ2 _ ((four_next.2 (.inr h3)).up (by omega)) hfit
      · simp [ofP]
    · have hlt : (¬ f (i * 3) = f 0 ∨ ¬ f (i * 3 + 1) = f 1 ∨ ¬ f (i * 3 + 2) = f 2) = True := eq_true (by omega)
      simp (maxSteps := 10000000) [-loopA_succ, ofLoop1, ofP, ofL, ofST, Tryz.f117, n0, b3, ↓l0, ↓li, hlt]
      simp only [good_bind, good_unblock]
      refine of_loop2 (B := B) (c := c) (r := if r < 1 then 1 else r) hn hin hF m2 hload (fun ts r hr hn3 hfit => ?_) (fun ts h3 hfit => ?_) ?_ hi1
      · obtain ⟨g, rfl⟩ := fits_of hfit 0
        simp [ofP, w1]
        exact ⟨x - 1, by omega, i + 1, by omega, by omega, r, hr, fun h => by
          rcases four_next.1 h with h | h
          · exact hno h
          · exact hn3 h, rfl, by omega⟩
      · exact hQ2 _ ((four_next.2 (.inr h3)).up (by omega)) hfit
      · simp [ofP]
  · have : i = n := by omega
    subst this
    simp [-loopA_succ, ofLoop1, ofP, Tryz.f117]
    exact hQ1 _ r hr hno (by simp [ofP])
set_option maxHeartbeats 4000000 in
theorem ofL_ok : SumOk Tryz.prog 117 ofLS := by
  refine sum_mem (L := ofL) (n := 300) (S := stOf ofST) drawS Tryz.T_ok (stOf_ok (by simp [ofST, r7line_ok, r7det_ok, rsign_ok])) Tryz.func117 rfl (by kernel_rfl) (by kernel_rfl) ?_
  intro args env nxt h
  unfold ofLS at h ⊢
  split at h
  · rename_i p o1 n0 c
    split at h
    · rename_i n f hl
      split at h
      · rename_i hc
        simp only [if_pos hc]
        obtain ⟨n1, hn, hF⟩ := id hc
        obtain ⟨rfl, hnc, items, ty, hp, hr', ⟨o, F, hrow, hf⟩, hload⟩ := listE_slice hl
        refine ⟨_, _, _, laid1 [.slice 0 o1 n c] rfl (by simp) hp hr', ?_⟩
        have n2 : ¬ n = 0 := by omega
        have hro : ∀ i, i < [p].length → refsL (([⟨items, ty⟩] : List Blk).getD i default).items = [] := fun i hi => by
          have : i = 0 := by simpa using hi
          subst this
          exact hr'
        simp [-loopA_succ, Tryz.f117, ofST, n2]
        simp only [good_bind, good_unblock]
        refine of_loop1 (B := ⟨items, ty⟩) (c := c) hn n1 hF hload (fun ts r hr hno hfit => ?_) (fun ts h4 hfit => ?_) ?_
        · obtain ⟨g, rfl⟩ := fits_of hfit 0
          simp [ofP, hno]
          refine ⟨[], none, .inr ⟨_, ⟨r.toNat, rfl⟩, ?_⟩⟩
          rw [show ((r.toNat : Nat) : Int) % 3 = r by omega]
          exact told_none (by simp) (by simp) (by simp [refs]) (by simp) hro
        · obtain ⟨g, rfl⟩ := fits_of hfit 0
          simp [ofP, h4]
          exact ⟨[], none, told_none (by simp) (by simp) (by simp [refs]) (by simp) hro⟩
        · simp [ofP]
      · simp [*] at h
    · simp [*] at h
  · simp at h
end Go.X
end
