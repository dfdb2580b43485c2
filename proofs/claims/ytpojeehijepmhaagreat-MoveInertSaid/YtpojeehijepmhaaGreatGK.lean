/- Shapes with a list: cores, halves, the reach. -/
import Derived.Test.YtpojeehijepmhaaGreatJUD
import Derived.Test.YtpojeehijepmhaaGreatGS
import Derived.Test.YtpojeehijepmhaaGreatGQ

section
namespace Go.X
open Go.Proofs
attribute [local irreducible] Good
theorem ck_nil {kd r x y z : Int} : ckI kd r x y z 0 (fun _ => 0) = if OkN kd r x y z then 0 else 2 := by
  by_cases h4 : kd = 4
  · subst h4
    have : ¬ OkN 4 r x y z := okN_not (by decide) (by decide) (by decide)
    rw [if_neg this]
    exact ck_4no fun h => by have := h.2.2.1; omega
  · exact ck_0 h4
noncomputable def checkBS : Sum := fun args env _ => match args with
  | [.agg [.int .i64 kd, .int .i64 r, .int .i64 x, .int .i64 y, .int .i64 z, l]] => match listE env l with
    | some (n, f) => open Classical in if ShP kd r x y z n f then .val (.int .i64 (ckI kd r x y z n f)) [] [] else .fail
    | none => .fail
  | _ => .fail
theorem checkB_ok : SumOk Tryz.prog 49 checkBS := by
  refine sum_or checkN_ok checkL_ok fun args env nxt => ?_
  unfold checkBS
  split
  · rename_i kd r x y z l
    split
    · rename_i n f hl
      rcases listE_cases hl with ⟨rfl, rfl, rfl⟩ | ⟨p, o1, c, rfl⟩
      · split
        · rename_i hc
          refine .inr (.inl ?_)
          obtain ⟨h1, h2, h3, h4, h5, -⟩ := hc
          simp [pureS_app, h1, h2, h3, h4, h5, ck_nil, prC]
        · exact .inl rfl
      · refine .inr (.inr ?_)
        simp only [checkLS, hl]
    · exact .inl rfl
  · exact .inl rfl
theorem cat_no {n o : Nat} {F : Nat → Int} {g : Nat → Int} : catF 0 n g 0 F o = cutL n (fun j => F (o + j)) := by
  funext j
  unfold catF cutL
  simp
theorem told_row {p q : Nat} {m : List Blk} {nxt : Nat} {v v' : AV} {blk B : Blk} (h1 : 1 ≤ q) (h2 : m[q]? = some blk) (h3 : m[0]? = some B) (hb : refsL blk.items = [])
    (hv : v.ren (glob [p] nxt [q]) = v') (hr : ∀ b ∈ refs v, b = q) (hu : v ≠ .undef) (h6 : refsL B.items = []) : Told [p] [B] m nxt [q] none v (.val v' [] [blk]) := by
  refine told_one (by simpa using h1) h2 (fun i hi => ?_) hb hv hr hu fun i hi => ?_
  · have : i = 0 := by simpa using hi
    subst this
    exact h3
  · have : i = 0 := by simpa using hi
    subst this
    exact h6
noncomputable def cpyS : Sum := fun args env nxt => match args with
  | [.nilslice] => .val .nilslice [] []
  | [.slice p o1 n0 c] => match listE env (.slice p o1 n0 c) with
    | some (n, f) => if n ≤ 1048576 then (if n = 0 then .val (.slice nxt 0 0 0) [] [⟨[], 24⟩] else .any fun k => .val (.slice nxt 0 n (n + k)) [] [VB n k f]) else .fail
    | none => .fail
  | _ => .fail
set_option maxHeartbeats 4000000 in
theorem cpy_ok : SumOk Tryz.prog 56 cpyS := by
  refine sum_mem (L := fun _ => none) (n := 1) (S := stOf []) drawS Tryz.T_ok (stOf_ok (by simp)) Tryz.func56 rfl (by kernel_rfl) (by kernel_rfl) ?_
  intro args env nxt h
  unfold cpyS at h ⊢
  split at h
  · refine ⟨[.nilslice], [], [], ⟨rfl, rfl, by simp, by simp, by simp, by simp⟩, ?_⟩
    simp [Tryz.f56]
    exact ⟨[], none, told_none (by simp) (by simp) (by simp) (by simp)⟩
  · rename_i p o1 n0 c
    split at h
    · rename_i n f hl
      split at h
      · rename_i hn
        simp only [if_pos hn]
        obtain ⟨rfl, hnc, items, ty, hp, hr, ⟨o, F, hrow, hf⟩, hload⟩ := listE_slice hl
        refine ⟨_, _, _, laid1 [.slice 0 o1 n c] rfl (by simp) hp hr, ?_⟩
        by_cases h0 : n = 0
        · subst h0
          simp [Tryz.f56, appA, hrow]
          exact ⟨[1], none, told_row (by omega) rfl rfl (by simp) (by simp [AV.ren, glob]) (by simp [refs]) (by simp) hr⟩
        · have hpos : 0 < n := by omega
          simp [Tryz.f56, appA, hrow, hpos, hn, h0]
          intro k
          exact ⟨[2], none, .inr ⟨_, ⟨k, rfl⟩, told_row (by omega) (by simp [cat_no, hf]) rfl (by simp) (by simp [AV.ren, glob]) (by simp [refs]) (by simp) hr⟩⟩
      · simp [*] at h
    · simp [*] at h
  · simp at h
noncomputable def kin3LS : Sum := fun args env nxt => match args with
  | [.agg [.int .i64 _kd, .int .i64 _r, .int .i64 _x, .int .i64 _y, .int .i64 _z, .slice p o1 n0 c]] => match listE env (.slice p o1 n0 c) with
    | some (n, _f) => open Classical in if n = n then .val (.slice nxt 0 1 1) [] [VB 1 0 (fun _ => 0)] else .fail
    | none => .fail
  | _ => .fail
set_option maxHeartbeats 4000000 in
set_option maxRecDepth 100000 in
theorem kin3L_ok : SumOk Tryz.prog 161 kin3LS := by
  refine sum_mem (L := fun _ => none) (n := 1) (S := stOf []) drawS Tryz.T_ok (stOf_ok (by simp)) Tryz.func161 rfl (by kernel_rfl) (by kernel_rfl) ?_
  intro args env nxt h
  unfold kin3LS at h ⊢
  split at h
  · rename_i kd r x y z p o1 n0 c 
    split at h
    · rename_i n f hl
      split at h
      · rename_i hc
        simp only []
        obtain - := id hc
        obtain ⟨rfl, hnc, items, ty, hp, hr', ⟨o, F, hrow, hf⟩, hload⟩ := listE_slice hl
        have hE := listE_own hrow hf hnc
        have hE2 := listE_ownE hrow hf hnc
        refine ⟨_, _, _, laid1 [.agg [.int .i64 kd, .int .i64 r, .int .i64 x, .int .i64 y, .int .i64 z, .slice 0 o1 n c]] rfl (by simp) hp hr', ?_⟩
        simp [Tryz.f161]
        rw [vb_1 (F := fun _ => 0) rfl rfl rfl]
        exact ⟨[2], none, told_row (by omega) rfl rfl (by simp) (by simp [AV.ren, glob]) (by simp) (by simp) hr'⟩
      · simp [*] at h
    · simp [*] at h
  · simp at h
noncomputable def kin5LS : Sum := fun args env nxt => match args with
  | [.agg [.int .i64 _kd, .int .i64 _r, .int .i64 _x, .int .i64 _y, .int .i64 z, .slice p o1 n0 c]] => match listE env (.slice p o1 n0 c) with
    | some (_n, _f) => open Classical in if InI (-z) ∧ InI z then .val (.slice nxt 0 2 2) [] [VB 2 0 (corF 2 0 0 z)] else .fail
    | none => .fail
  | _ => .fail
set_option maxHeartbeats 4000000 in
set_option maxRecDepth 100000 in
theorem kin5L_ok : SumOk Tryz.prog 163 kin5LS := by
  refine sum_mem (L := fun _ => none) (n := 1) (S := stOf []) drawS Tryz.T_ok (stOf_ok (by simp)) Tryz.func163 rfl (by kernel_rfl) (by kernel_rfl) ?_
  intro args env nxt h
  unfold kin5LS at h ⊢
  split at h
  · rename_i kd r x y z p o1 n0 c 
    split at h
    · rename_i n f hl
      split at h
      · rename_i hc
        simp only [if_pos hc]
        obtain ⟨n1, hz⟩ := id hc
        obtain ⟨rfl, hnc, items, ty, hp, hr', ⟨o, F, hrow, hf⟩, hload⟩ := listE_slice hl
        have hE := listE_own hrow hf hnc
        have hE2 := listE_ownE hrow hf hnc
        refine ⟨_, _, _, laid1 [.agg [.int .i64 kd, .int .i64 r, .int .i64 x, .int .i64 y, .int .i64 z, .slice 0 o1 n c]] rfl (by simp) hp hr', ?_⟩
        have w1 : IntKind.i64.wrap (-z) = -z := wrap_i64_in n1.1 n1.2
        simp [Tryz.f163, w1]
        rw [vb_2 (F := corF 2 0 0 z) (by simp [corF]) (by simp [corF]) (by simp [corF]) (by simp [corF]) (by simp [corF]) (by simp [corF])]
        exact ⟨[2], none, told_row (by omega) rfl rfl (by simp) (by simp [AV.ren, glob]) (by simp) (by simp) hr'⟩
      · simp [*] at h
    · simp [*] at h
  · simp at h
noncomputable def kin8LS : Sum := fun args env nxt => match args with
  | [.agg [.int .i64 _kd, .int .i64 _r, .int .i64 _x, .int .i64 _y, .int .i64 _z, .slice p o1 n0 c]] => match listE env (.slice p o1 n0 c) with
    | some (n, f) => open Classical in if 0 < n ∧ n ≤ 1048576 then .any fun k => .val (.slice nxt 0 n (n + k)) [] [VB n k f] else .fail
    | none => .fail
  | _ => .fail
set_option maxHeartbeats 4000000 in
set_option maxRecDepth 100000 in
theorem kin8L_ok : SumOk Tryz.prog 167 kin8LS := by
  refine sum_mem (L := fun _ => none) (n := 1) (S := stOf [(56, cpyS)]) drawS Tryz.T_ok (stOf_ok (by simp [cpy_ok])) Tryz.func167 rfl (by kernel_rfl) (by kernel_rfl) ?_
  intro args env nxt h
  unfold kin8LS at h ⊢
  split at h
  · rename_i kd r x y z p o1 n0 c 
    split at h
    · rename_i n f hl
      split at h
      · rename_i hc
        simp only [if_pos hc]
        obtain ⟨n1, n2⟩ := id hc
        obtain ⟨rfl, hnc, items, ty, hp, hr', ⟨o, F, hrow, hf⟩, hload⟩ := listE_slice hl
        have hE := listE_own hrow hf hnc
        have hE2 := listE_ownE hrow hf hnc
        refine ⟨_, _, _, laid1 [.agg [.int .i64 kd, .int .i64 r, .int .i64 x, .int .i64 y, .int .i64 z, .slice 0 o1 n c]] rfl (by simp) hp hr', ?_⟩
        have n0 : ¬ n = 0 := by omega
        simp [Tryz.f167, cpyS, hE, n2, n0]
        intro k
        exact ⟨[2], none, .inr ⟨_, ⟨k, rfl⟩, told_row (by omega) rfl rfl (by simp) (by simp [AV.ren, glob]) (by simp [refs]) (by simp) hr'⟩⟩
      · simp [*] at h
    · simp [*] at h
  · simp at h
noncomputable def cornP2 (l : AV) (i : Option AV) : List (Option AV) := [none, some (.ptr 1 0), some .nilslice, some l, some (.fn 184 []), none, i, none, none, none, none, none, none, none, none, none, none, none, none, none, none, none, none, none, none, none, none, none, none, none, none, none, none, none, none]
set_option maxHeartbeats 4000000 in
theorem corners_loop2 {kd r x y z : Int} {o1 n c : Nat} {B : Blk} (n1 : InI (-x)) (n2 : InI (-y)) (n3 : InI (-z)) (hx : InI x) (hy : InI y) (hz : InI z) {Q : Ex → St → Prop}
    (hQ : ∀ (ts : List AV) (m : List Blk) (l : AV), Fits (cornP2 l none) ts → m[0]? = some B → LA m 3 24 l 8 (cornF x y z) → (∀ q, q ∈ refs l → 2 ≤ q) → Q (.exit 0) ⟨ts, m, []⟩)
    {ts : List AV} {m0 : List Blk} (hm00 : m0[0]? = some B) (hm0 : m0[1]? = some ⟨shI kd r x y z (.slice 0 o1 n c), 27⟩) (h0 : Fits (cornP2 .nilslice (some (.int .i64 0))) ts) :
    Good (loopA (exec Tryz.T (stOf [(184, pureS corn1S)]) cornersL 10 cornersLoop) 10 ⟨ts, m0, []⟩) Q := by
  refine loop_rule (fun k s => ∃ (i : Nat) (l : AV), i + k = 8 ∧ Fits (cornP2 l (some (.int .i64 i))) s.ts ∧ s.m[0]? = some B ∧ s.m[1]? = some ⟨shI kd r x y z (.slice 0 o1 n c), 27⟩ ∧ LA s.m 3 24 l i (cornF x y z) ∧ (∀ q, q ∈ refs l → 2 ≤ q) ∧ s.df = []) ?_ 10 8 _ (by omega)
    ⟨0, .nilslice, by omega, h0, hm00, hm0, LA.nil, by simp [refs], rfl⟩
  rintro k ⟨ts, m, df⟩ ⟨i, l, hik, hfit, hm, hm1, hl, hlr0, hd⟩
  simp only at hfit hm hm1 hl hd
  subst hd
  obtain ⟨f, rfl⟩ := fits_of hfit 0
  by_cases hi : i < 8
  · have hi1 : (i : Int) < 8 := by omega
    have hi2 : (0 : Int) ≤ i := by omega
    have w3 : IntKind.i64.wrap ((i : Int) + 1) = i + 1 := wrap_i64_in (by omega) (by omega)
    have w2 : IntKind.i64.wrap ((i : Int) / 2) = (i : Int) / 2 := wrap_i64_in (by omega) (by omega)
    have w4 : IntKind.i64.wrap ((i : Int) / 4) = (i : Int) / 4 := wrap_i64_in (by omega) (by omega)
    have q2 : (0 : Int) ≤ (i : Int) / 2 := by omega
    have q2b : (i : Int) / 2 < 8 := by omega
    have q4 : (0 : Int) ≤ (i : Int) / 4 := by omega
    have q4b : (i : Int) / 4 < 8 := by omega
    have d1 : ((i : Int) % 2 = 0) ↔ (i % 2 = 0) := by omega
    have d2 : ((i : Int) / 2 % 2 = 0) ↔ (i / 2 % 2 = 0) := by omega
    have d4 : ((i : Int) / 4 % 2 = 0) ↔ (i / 4 % 2 = 0) := by omega
    have hlen1 : 1 < m.length := (List.getElem?_eq_some_iff.1 hm1).1
    have hlen : 0 < m.length := by omega
    have g3 : (∀ q, q ∈ refs l → q < m.length) = True := eq_true hl.ref.2.2
    have N0 : ∀ (h : 0 < m.length), m[0]'h = B := fun h => Option.some.inj ((List.getElem?_eq_getElem h).symm.trans hm)
    have N1 : ∀ (h : 1 < m.length), m[1]'h = ⟨shI kd r x y z (.slice 0 o1 n c), 27⟩ := fun h => Option.some.inj ((List.getElem?_eq_getElem h).symm.trans hm1)
    have g0 := hl.ref
    have L0 : ∀ l, (m ++ l)[0]? = some B := fun l => by rw [List.getElem?_append_left hlen]; exact hm
    have L1 : ∀ l, (m ++ l)[1]? = some ⟨shI kd r x y z (.slice 0 o1 n c), 27⟩ := fun l => by rw [List.getElem?_append_left hlen1]; exact hm1
    simp [-ofOR, ofOR_val, cornersLoop, cornP2, cornersL, Tryz.f165, hi1, hi2, w2, w4, q2, q2b, q4, q4b, d1, d2, d4, hlen1, g3, N1, n1, n2, n3, hx, hy, hz]
    intro cc
    simp only [good_bind, good_unblock]
    refine append_good2 (n := i) (n' := 1) (o' := 0) (F := cornF x y z) (g := fun j => [if i % 2 = 0 then -x else x, if i / 2 % 2 = 0 then -y else y, if i / 4 % 2 = 0 then -z else z][j]?.getD 0) Tryz.T_25 rfl (by decide) rfl (by simp) (hl.keep fun q hq => List.getElem?_append_left (hl.ref.2.2 q hq)) (by simp) rfl (by decide) (by omega) ?_ cc
    intro m' v hk hlen2 hla hlr
    simp [w3]
    refine ⟨k - 1, by omega, i + 1, by omega, v, ⟨rfl, by omega⟩, ?_, ?_, ?_, ?_⟩
    · rw [hk 0 (by simp) (fun h => by have := hlr0 0 h; omega)]; exact L0 _
    · rw [hk 1 (by simp <;> omega) (fun h => by have := hlr0 1 h; omega)]; exact L1 _
    · refine hla.congr fun j hj => ?_
      obtain ⟨c0, c1, c2⟩ := corn_get (x := x) (y := y) (z := z) (i := i)
      by_cases hj0 : j < i * 3
      · rw [if_pos hj0]
      · rw [if_neg hj0, Nat.zero_add]
        have : j = i * 3 ∨ j = i * 3 + 1 ∨ j = i * 3 + 2 := by omega
        rcases this with rfl | rfl | rfl
        · rw [c0, Nat.sub_self]; rfl
        · rw [c1, show i * 3 + 1 - i * 3 = 1 from by omega]; rfl
        · rw [c2, show i * 3 + 2 - i * 3 = 2 from by omega]; rfl
    · intro q hq
      rcases hlr q hq with h | h
      · exact hlr0 q h
      · simp at h; omega
  · have : i = 8 := by omega
    subst this
    simp [cornersLoop, cornP2, Tryz.f165]
    exact hQ _ _ _ (by simp [cornP2]) hm hl hlr0
noncomputable def cornLS : Sum := fun args env nxt => match args with
  | [.agg [.int .i64 _kd, .int .i64 _r, .int .i64 x, .int .i64 y, .int .i64 z, .slice p o1 n0 c]] => match listE env (.slice p o1 n0 c) with
    | some (_n, _f) => open Classical in if InI (-x) ∧ InI (-y) ∧ InI (-z) ∧ InI x ∧ InI y ∧ InI z then .any fun k => .val (.slice nxt 0 8 (8 + k)) [] [VB 8 k (cornF x y z)] else .fail
    | none => .fail
  | _ => .fail
set_option maxHeartbeats 4000000 in
set_option maxRecDepth 100000 in
theorem cornL_ok : SumOk Tryz.prog 165 cornLS := by
  refine sum_mem (L := cornersL) (n := 10) (S := stOf [(184, pureS corn1S)]) drawS Tryz.T_ok (stOf_ok (by simp [corn1_ok])) Tryz.func165 rfl (by kernel_rfl) (by kernel_rfl) ?_
  intro args env nxt h
  unfold cornLS at h ⊢
  split at h
  · rename_i kd r x y z p o1 n0 c 
    split at h
    · rename_i n f hl
      split at h
      · rename_i hc
        simp only [if_pos hc]
        obtain ⟨n1, n2, n3, hx, hy, hz⟩ := id hc
        obtain ⟨rfl, hnc, items, ty, hp, hr', ⟨o, F, hrow, hf⟩, hload⟩ := listE_slice hl
        have hE := listE_own hrow hf hnc
        have hE2 := listE_ownE hrow hf hnc
        refine ⟨_, _, _, laid1 [.agg [.int .i64 kd, .int .i64 r, .int .i64 x, .int .i64 y, .int .i64 z, .slice 0 o1 n c]] rfl (by simp) hp hr', ?_⟩
        simp [-loopA_succ, Tryz.f165]
        simp only [good_bind, good_unblock]
        refine corners_loop2 (kd := kd) (r := r) (o1 := o1) (n := n) (c := c) (B := ⟨items, ty⟩) n1 n2 n3 hx hy hz (fun ts m l hfit hm hla hlr => ?_) ?_ ?_ ?_
        · obtain ⟨f, rfl⟩ := fits_of hfit 0
          rcases hla with ⟨-, h8⟩ | ⟨q, k, rfl, hq⟩
          · omega
          · simp [cornP2]
            refine ⟨[q], none, .inr ⟨_, ⟨k, rfl⟩, ?_⟩⟩
            have := hlr q (by simp [refs])
            exact told_row (by omega) hq hm (by simp) (by simp [AV.ren, glob]; omega) (by simp) (by simp) hr'
        · rfl
        · rfl
        · simp [cornP2]
      · simp [*] at h
    · simp [*] at h
  · simp at h
noncomputable def coreLS : Sum := fun args env nxt => match args with
  | [.agg [.int .i64 kd, .int .i64 r, .int .i64 x, .int .i64 y, .int .i64 z, .slice p o1 n0 c]] => match listE env (.slice p o1 n0 c) with
    | some (n, f) => open Classical in if ShP kd r x y z n f then (if ckI kd r x y z n f = 0 then .any fun k => .val (.tup [.slice nxt 0 (coN kd n) (coN kd n + k), .int .i64 0]) [] [VB (coN kd n) k (coF kd x y z f)] else .val (.tup [.nilslice, .int .i64 (ckI kd r x y z n f)]) [] []) else .fail
    | none => .fail
  | _ => .fail
set_option maxHeartbeats 40000000 in
set_option maxRecDepth 100000 in
theorem coreL_ok : SumOk Tryz.prog 67 coreLS := by
  refine sum_mem (L := coreL) (n := 1) (S := stOf [(49, checkLS), (109, kindsS), (161, kin3LS), (163, kin5LS), (165, cornLS), (167, kin8LS)]) drawS Tryz.T_ok (stOf_ok (by simp [checkL_ok, kinds_ok, kin3L_ok, kin5L_ok, cornL_ok, kin8L_ok])) Tryz.func67 rfl (by kernel_rfl) (by kernel_rfl) ?_
  intro args env nxt h
  unfold coreLS at h ⊢
  split at h
  · rename_i kd r x y z p o1 n0 c 
    split at h
    · rename_i n f hl
      split at h
      · rename_i hc
        simp only [if_pos hc]
        obtain ⟨hkd, hr, hx, hy, hz, hn, hF⟩ := id hc
        obtain ⟨rfl, hnc, items, ty, hp, hr', ⟨o, F, hrow, hf⟩, hload⟩ := listE_slice hl
        have hE := listE_own hrow hf hnc
        have hE2 := listE_ownE hrow hf hnc
        refine ⟨_, _, _, laid1 [.agg [.int .i64 kd, .int .i64 r, .int .i64 x, .int .i64 y, .int .i64 z, .slice 0 o1 n c]] rfl (by simp) hp hr', ?_⟩
        have hct := eq_true hc
        by_cases ok : ckI kd r x y z n f = 0
        · obtain ⟨r0, r1, hs, -⟩ := ck_ok ok
          have sn := size_neg hs
          by_cases k4 : kd = 4
          · subst k4
            have hn4 : 0 < n := by
              unfold ckI at ok
              rw [if_pos rfl] at ok
              split at ok
              · rename_i hm; have := hm.2.2.1; omega
              · omega
            have hn5 : n ≤ 1048576 := by omega
            have e1 : coN 4 n = n := by simp [coN]
            have e2 : coF 4 x y z f = f := by simp [coF]
            simp [Tryz.f67, coreL, checkLS, kindsS, kin8LS, hE, hct, ok, hn4, hn5, e1, e2]
            intro k
            exact ⟨[3], none, .inr ⟨_, ⟨k, rfl⟩, told_row (by omega) rfl rfl (by simp) (by simp [AV.ren, renL, glob]) (by simp) (by simp) hr'⟩⟩
          · have e1 : coN kd n = corN kd := by simp [coN, k4]
            have e2 : coF kd x y z f = corF kd x y z := by simp [coF, k4]
            have hk : kd = 1 ∨ kd = 2 ∨ kd = 3 := by
              unfold ckI at ok
              rw [if_neg k4] at ok
              split at ok
              · rename_i hm
                have := (may_in hm.1).1
                omega
              · omega
            rcases hk with rfl | rfl | rfl
            · have e3 : corF 1 x y z = fun _ => 0 := by funext j; simp [corF]
              have c1 : corN 1 = 1 := by simp [corN]
              simp [Tryz.f67, coreL, checkLS, kindsS, kin3LS, hE, hct, ok, e1, e2, e3, c1]
              exact ⟨[3], none, .inr ⟨_, ⟨0, rfl⟩, told_row (by omega) rfl rfl (by simp) (by simp [AV.ren, renL, glob]) (by simp) (by simp) hr'⟩⟩
            · have e3 : corF 2 x y z = corF 2 0 0 z := by funext j; simp [corF]
              have c1 : corN 2 = 2 := by simp [corN]
              simp [Tryz.f67, coreL, checkLS, kindsS, kin5LS, hE, hct, ok, sn, e1, e2, e3, c1]
              exact ⟨[3], none, .inr ⟨_, ⟨0, rfl⟩, told_row (by omega) rfl rfl (by simp) (by simp [AV.ren, renL, glob]) (by simp) (by simp) hr'⟩⟩
            · have e3 : corF 3 x y z = cornF x y z := by funext j; simp [corF]
              have c1 : corN 3 = 8 := by simp [corN]
              simp [Tryz.f67, coreL, checkLS, kindsS, cornLS, hE, hct, ok, sn, e1, e2, e3, c1]
              intro k
              exact ⟨[3], none, .inr ⟨_, ⟨k, rfl⟩, told_row (by omega) rfl rfl (by simp) (by simp [AV.ren, renL, glob]) (by simp) (by simp) hr'⟩⟩
        · simp [Tryz.f67, checkLS, hE, hct, ok]
          exact ⟨[], none, told_none (by simp) (by simp) (by simp) (by simp) (fun i hi => by
            have : i = 0 := by simpa using hi
            subst this
            exact hr')⟩
      · simp [*] at h
    · simp [*] at h
  · simp at h
end Go.X
end

section
namespace Go.X
open Go.Proofs
attribute [local irreducible] Good
theorem mx3 {a b c : Int} : max3 a b c = max a (max b c) := by unfold max3; (repeat' split) <;> omega
theorem load_VB {m : List Blk} {p N k : Nat} {F : Nat → Int} (hp : m[p]? = some (VB N k F)) {i : Nat} (hi : i < N) : (∃ h : p < m.length, m[p]'h = VB N k F) ∧ ∀ fs z q, loadB ⟨.struct fs, 3, z, q⟩ (VB N k F) (i * 3) = some (.agg [.int .i64 (F (i * 3)), .int .i64 (F (i * 3 + 1)), .int .i64 (F (i * 3 + 2))]) := by
  refine ⟨⟨(List.getElem?_eq_some_iff.1 hp).1, (List.getElem?_eq_some_iff.1 hp).2⟩, fun fs z q => ?_⟩
  exact loadB_VB (n := N) (c := k) (by omega) (Nat.le_refl _)
abbrev V3B (a b c : Int) : Blk := ⟨[.int .i64 a, .int .i64 b, .int .i64 c], 24⟩
noncomputable def halfST : List (FuncId × Sum) := [(67, coreLS), (68, pureS vAddS)]
noncomputable def halfLoop : Code := match Tryz.f32.body with | some (.seq _ (.seq _ (.seq _ (.seq _ (.seq (.seq _ (.block _ (.loop c))) _))))) => c | _ => .skip
noncomputable def halfP (a b : AV) (p q N k : Nat) (i : Option AV) : List (Option AV) := [none, some a, some b, none, none, none, some (.ptr q 0), none, none, none, none, none, none, none, none, none, none, none, some (.slice p 0 N (N + k)), some (.int .i64 N), i, none, none, none, none, none, none, none, none, none, none, none, none, none, none, none, none, none, none, none, none, none, none, none, none, none, none, none, none, none, none, none, none, none, none, none, none, none, none]
set_option maxHeartbeats 40000000 in
set_option maxRecDepth 100000 in
theorem half_loop {a b : AV} {p q N k : Nat} {F : Nat → Int} {mi : List Blk} (hN : N ≤ 100) (hF : ∀ j, j < N * 3 → SmN (F j)) (hpq : p < q) (_hql : q < mi.length) {Q : Ex → St → Prop}
    (hQ : ∀ (ts : List AV) (m : List Blk), Fits (halfP a b p q N k none) ts → (∀ j, j < q → m[j]? = mi[j]?) → m[q]? = some (V3B (mxI F 0 N) (mxI F 1 N) (mxI F 2 N)) → Q (.exit 0) ⟨ts, m, []⟩)
    {ts : List AV} (hp : mi[p]? = some (VB N k F)) (hq : mi[q]? = some (V3B 0 0 0)) (h0 : Fits (halfP a b p q N k (some (.int .i64 0))) ts) :
    Good (loopA (exec Tryz.T (stOf halfST) (fun _ => none) 150 halfLoop) 150 ⟨ts, mi, []⟩) Q := by
  refine loop_rule (fun x s => ∃ i : Nat, i + x = N ∧ Fits (halfP a b p q N k (some (.int .i64 i))) s.ts ∧ (∀ j, j < q → s.m[j]? = mi[j]?) ∧ s.m[q]? = some (V3B (mxI F 0 i) (mxI F 1 i) (mxI F 2 i)) ∧ s.df = []) ?_ 150 N _ (by omega)
    ⟨0, by omega, h0, fun _ _ => rfl, hq, rfl⟩
  rintro x ⟨ts, m, df⟩ ⟨i, hix, hfit, hm, hmq, hd⟩
  simp only at hfit hm hmq hd
  subst hd
  obtain ⟨g, rfl⟩ := fits_of hfit 0
  by_cases hi : i < N
  · have hi1 : (i : Int) < N := by omega
    have w1 : IntKind.i64.wrap ((i : Int) + 1) = i + 1 := wrap_i64_in (by omega) (by omega)
    have hmp : m[p]? = some (VB N k F) := by rw [hm p hpq]; exact hp
    obtain ⟨⟨lp, Np⟩, l0⟩ := load_VB hmp hi
    have lq : q < m.length := (List.getElem?_eq_some_iff.1 hmq).1
    have Nq : m[q]'lq = V3B (mxI F 0 i) (mxI F 1 i) (mxI F 2 i) := (List.getElem?_eq_some_iff.1 hmq).2
    have Lq : ∀ x, (m ++ x)[q]? = some (V3B (mxI F 0 i) (mxI F 1 i) (mxI F 2 i)) := fun x => by rw [List.getElem?_append_left lq]; exact hmq
    have p0 : SmN (F (i * 3)) := hF _ (by omega)
    have p1 : SmN (F (i * 3 + 1)) := hF _ (by omega)
    have p2 : SmN (F (i * 3 + 2)) := hF _ (by omega)
    have v0 : IntKind.i64.wrap (-F (i * 3)) = -F (i * 3) := wrap_i64_in (by unfold SmN at p0; omega) (by unfold SmN at p0; omega)
    have v1 : IntKind.i64.wrap (-F (i * 3 + 1)) = -F (i * 3 + 1) := wrap_i64_in (by unfold SmN at p1; omega) (by unfold SmN at p1; omega)
    have v2 : IntKind.i64.wrap (-F (i * 3 + 2)) = -F (i * 3 + 2) := wrap_i64_in (by unfold SmN at p2; omega) (by unfold SmN at p2; omega)
    have e0 : max3 (mxI F 0 i) (F (i * 3)) (-F (i * 3)) = mxI F 0 (i + 1) := mx3
    have e1 : max3 (mxI F 1 i) (F (i * 3 + 1)) (-F (i * 3 + 1)) = mxI F 1 (i + 1) := mx3
    have e2 : max3 (mxI F 2 i) (F (i * 3 + 2)) (-F (i * 3 + 2)) = mxI F 2 (i + 1) := mx3
    simp [halfLoop, halfP, halfST, Tryz.f32, hi1, w1, lp, Np, ↓l0, Lq, modify_end, v0, v1, v2, max3_is, e0, e1, e2]
    exact ⟨x - 1, by omega, i + 1, by omega, by omega, fun j hj => by
      rw [List.getElem?_modify]
      simp only [show ¬ q = j by omega, if_false]
      rw [← hm j hj, List.getElem?_append_left (by omega)]
      cases m[j]? <;> rfl, rfl, rfl, rfl⟩
  · have : i = N := by omega
    subst this
    simp [halfLoop, halfP, Tryz.f32]
    exact hQ _ _ (by simp [halfP]) hm hmq
noncomputable def halfLS : Sum := fun args env _ => match args with
  | [.agg [.int .i64 kd, .int .i64 r, .int .i64 x, .int .i64 y, .int .i64 z, .slice p o1 n0 c]] => match listE env (.slice p o1 n0 c) with
    | some (n, f) => open Classical in if ShP kd r x y z n f then .val (if ckI kd r x y z n f = 0 then .tup [.agg [.int .i64 (mxI (coF kd x y z f) 0 (coN kd n) + r), .int .i64 (mxI (coF kd x y z f) 1 (coN kd n) + r), .int .i64 (mxI (coF kd x y z f) 2 (coN kd n) + r)], .int .i64 0] else .tup [.agg [.int .i64 0, .int .i64 0, .int .i64 0], .int .i64 (ckI kd r x y z n f)]) [] [] else .fail
    | none => .fail
  | _ => .fail
set_option maxHeartbeats 40000000 in
set_option maxRecDepth 100000 in
theorem halfL_ok : SumOk Tryz.prog 32 halfLS := by
  refine sum_read (L := fun _ => none) (n := 150) (S := stOf halfST) drawS Tryz.T_ok (stOf_ok (by simp [halfST, coreL_ok, vAdd_ok])) Tryz.func32 rfl (by kernel_rfl) (by kernel_rfl) ?_
  intro args env nxt h
  unfold halfLS at h ⊢
  split at h
  · rename_i kd r x y z p o1 n0 c 
    split at h
    · rename_i n f hl
      split at h
      · rename_i hc
        simp only [if_pos hc]
        obtain ⟨hkd, hr, hx, hy, hz, hn, hF⟩ := id hc
        obtain ⟨rfl, hnc, items, ty, hp, hr', ⟨o, F, hrow, hf⟩, hload⟩ := listE_slice hl
        have hE := listE_own hrow hf hnc
        have hE2 := listE_ownE hrow hf hnc
        refine ⟨_, _, _, if ckI kd r x y z n f = 0 then .tup [.agg [.int .i64 (mxI (coF kd x y z f) 0 (coN kd n) + r), .int .i64 (mxI (coF kd x y z f) 1 (coN kd n) + r), .int .i64 (mxI (coF kd x y z f) 2 (coN kd n) + r)], .int .i64 0] else .tup [.agg [.int .i64 0, .int .i64 0, .int .i64 0], .int .i64 (ckI kd r x y z n f)], laid1 [.agg [.int .i64 kd, .int .i64 r, .int .i64 x, .int .i64 y, .int .i64 z, .slice 0 o1 n c]] rfl (by simp) hp hr', rfl, (by split <;> rfl), (by split <;> rfl), ?_⟩
        have hct := eq_true hc
        by_cases ok : ckI kd r x y z n f = 0
        · obtain ⟨r0, r1, hs, N1, N2, hsm⟩ := ck_ok ok
          simp [-loopA_succ, Tryz.f32, halfST, coreLS, hE, hct, ok]
          intro k
          simp only [good_bind, good_unblock]
          refine half_loop (a := .ptr 1 0) (b := .ptr 2 0) (p := 3) (q := 4) (N := coN kd n) (k := k) (F := coF kd x y z f) (by omega) hsm (by omega) (by simp) (fun ts m hfit hm hmq => ?_) ?_ ?_ ?_
          · obtain ⟨g, rfl⟩ := fits_of hfit 0
            have m0 : m[0]? = some ⟨items, ty⟩ := hm 0 (by omega)
            have m1 : m[1]? = some ⟨[.int .i64 kd, .int .i64 r, .int .i64 x, .int .i64 y, .int .i64 z, .slice 0 o1 n c], 27⟩ := hm 1 (by omega)
            have m2 : m[2]? = some (V3B 0 0 0) := hm 2 (by omega)
            have l4 : 4 < m.length := (List.getElem?_eq_some_iff.1 hmq).1
            have l0 : 0 < m.length := by omega
            have l1 : 1 < m.length := by omega
            have l2 : 2 < m.length := by omega
            have N0 : ∀ (h : 0 < m.length), m[0]'h = ⟨items, ty⟩ := fun h => Option.some.inj ((List.getElem?_eq_getElem h).symm.trans m0)
            have N1 : ∀ (h : 1 < m.length), m[1]'h = _ := fun h => Option.some.inj ((List.getElem?_eq_getElem h).symm.trans m1)
            have N2 : ∀ (h : 2 < m.length), m[2]'h = _ := fun h => Option.some.inj ((List.getElem?_eq_getElem h).symm.trans m2)
            have N4 : ∀ (h : 4 < m.length), m[4]'h = _ := fun h => Option.some.inj ((List.getElem?_eq_getElem h).symm.trans hmq)
            have b0 := mxI_bd (F := coF kd x y z f) (c := 0) (by decide) hsm
            have b1 := mxI_bd (F := coF kd x y z f) (c := 1) (by decide) hsm
            have b2 := mxI_bd (F := coF kd x y z f) (c := 2) (by decide) hsm
            have i0 : InI (mxI (coF kd x y z f) 0 (coN kd n)) := by unfold InI; omega
            have i1 : InI (mxI (coF kd x y z f) 1 (coN kd n)) := by unfold InI; omega
            have i2 : InI (mxI (coF kd x y z f) 2 (coN kd n)) := by unfold InI; omega
            have c0 : clampI (mxI (coF kd x y z f) 0 (coN kd n) + r) = mxI (coF kd x y z f) 0 (coN kd n) + r := clampI_self (by unfold InI; omega)
            have c1 : clampI (mxI (coF kd x y z f) 1 (coN kd n) + r) = mxI (coF kd x y z f) 1 (coN kd n) + r := clampI_self (by unfold InI; omega)
            have c2 : clampI (mxI (coF kd x y z f) 2 (coN kd n) + r) = mxI (coF kd x y z f) 2 (coN kd n) + r := clampI_self (by unfold InI; omega)
            simp [halfP, l0, l1, l2, l4, N0, N1, N2, N4, i0, i1, i2, hr, c0, c1, c2]
            omega
          · rfl
          · rfl
          · simp [halfP]
        · simp [Tryz.f32, halfST, coreLS, hE, hct, ok]
      · simp [*] at h
    · simp [*] at h
  · simp at h
noncomputable def coreBS : Sum := fun args env nxt => match args with
  | [.agg [.int .i64 kd, .int .i64 r, .int .i64 x, .int .i64 y, .int .i64 z, l]] => match listE env l with
    | some (n, f) => open Classical in if ShP kd r x y z n f then (if ckI kd r x y z n f = 0 then .any fun k => .val (.tup [.slice nxt 0 (coN kd n) (coN kd n + k), .int .i64 0]) [] [VB (coN kd n) k (coF kd x y z f)] else .val (.tup [.nilslice, .int .i64 (ckI kd r x y z n f)]) [] []) else .fail
    | none => .fail
  | _ => .fail
theorem OkN.n4 {kd r x y z : Int} (h : OkN kd r x y z) : ¬ kd = 4 := by
  rintro rfl
  exact okN_not (by decide) (by decide) (by decide) h
noncomputable def halfBS : Sum := fun args env _ => match args with
  | [.agg [.int .i64 kd, .int .i64 r, .int .i64 x, .int .i64 y, .int .i64 z, l]] => match listE env l with
    | some (n, f) => open Classical in if ShP kd r x y z n f then .val (if ckI kd r x y z n f = 0 then .tup [.agg [.int .i64 (mxI (coF kd x y z f) 0 (coN kd n) + r), .int .i64 (mxI (coF kd x y z f) 1 (coN kd n) + r), .int .i64 (mxI (coF kd x y z f) 2 (coN kd n) + r)], .int .i64 0] else .tup [.agg [.int .i64 0, .int .i64 0, .int .i64 0], .int .i64 (ckI kd r x y z n f)]) [] [] else .fail
    | none => .fail
  | _ => .fail
theorem mxI_cor {kd r x y z : Int} (h : OkN kd r x y z) : mxI (corF kd x y z) 0 (corN kd) = x ∧ mxI (corF kd x y z) 1 (corN kd) = y ∧ mxI (corF kd x y z) 2 (corN kd) = z := by
  obtain ⟨hm, -, -, -⟩ := may_in h
  rcases hm with ⟨rfl, rfl, rfl, rfl⟩ | ⟨rfl, rfl, rfl, z0⟩ | ⟨rfl, x0, y0, z0⟩
  · simp [corN, corF, mxI]
  · simp [corN, corF, mxI]; omega
  · simp [corN, corF, cornF, mxI]; omega
theorem halfB_ok : SumOk Tryz.prog 32 halfBS := by
  refine sum_or halfN_ok halfL_ok fun args env nxt => ?_
  unfold halfBS
  split
  · rename_i kd r x y z l
    split
    · rename_i n f hl
      rcases listE_cases hl with ⟨rfl, rfl, rfl⟩ | ⟨p, o1, c, rfl⟩
      · split
        · rename_i hc
          refine .inr (.inl ?_)
          obtain ⟨h1, h2, h3, h4, h5, -⟩ := hc
          rw [ck_nil]
          by_cases ok : OkN kd r x y z
          · obtain ⟨e1, e2, e3⟩ := mxI_cor ok
            simp [pureS_app, h1, h2, h3, h4, h5, prC, ok, coN, coF, ok.n4, e1, e2, e3]
          · simp [pureS_app, h1, h2, h3, h4, h5, prC, ok]
        · exact .inl rfl
      · refine .inr (.inr ?_)
        simp only [halfLS, hl]
    · exact .inl rfl
  · exact .inl rfl
end Go.X
end
