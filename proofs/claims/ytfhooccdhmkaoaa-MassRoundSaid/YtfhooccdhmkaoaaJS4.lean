/- Shapes without a list: cores, halves. -/
import Derived.Test.YtfhooccdhmkaoaaJS2
namespace Go.X
open Go.Proofs
attribute [local irreducible] Good

/-- the shape's parts -/
abbrev shI (kd r x y z : Int) (l : AV) : List AV := [.int .i64 kd, .int .i64 r, .int .i64 x, .int .i64 y, .int .i64 z, l]
noncomputable def cornersS : Sum := fun args _ nxt => match args with
  | [.agg [.int .i64 _, .int .i64 _, .int .i64 x, .int .i64 y, .int .i64 z, .nilslice]] => open Classical in if InI (-x) ∧ InI (-y) ∧ InI (-z) ∧ InI x ∧ InI y ∧ InI z then .any fun c => .val (.slice nxt 0 8 (8 + c)) [] [VB 8 c (cornF x y z)] else .fail
  | _ => .fail
noncomputable def cornersLoop : Code := match Try.f139.body with | some (.seq _ (.seq _ (.seq _ (.seq (.seq _ (.block _ (.loop c))) _)))) => c | _ => .skip
def cornersL (i : Nat) : Option DM := if i = 6 then some (.quiet 23) else none
noncomputable def cornersP (kd r x y z : Int) (l : AV) (i : Option AV) : List (Option AV) := [some (.agg (shI kd r x y z .nilslice)), some (.ptr 0 0), some .nilslice, some l, some (.fn 177 []), none, i, none, none, none, none, none, none, none, none, none, none, none, none, none, none, none, none, none, none, none, none, none, none, none, none, none, none, none, none]
theorem corn_get {x y z : Int} {i : Nat} : cornF x y z (i * 3) = (if i % 2 = 0 then -x else x) ∧ cornF x y z (i * 3 + 1) = (if i / 2 % 2 = 0 then -y else y) ∧ cornF x y z (i * 3 + 2) = (if i / 4 % 2 = 0 then -z else z) := by
  have a0 : i * 3 % 3 = 0 := by omega
  have a1 : (i * 3 + 1) % 3 = 1 := by omega
  have a2 : (i * 3 + 2) % 3 = 2 := by omega
  have b0 : i * 3 / 3 = i := by omega
  have b1 : (i * 3 + 1) / 3 = i := by omega
  have b2 : (i * 3 + 2) / 3 = i := by omega
  refine ⟨?_, ?_, ?_⟩ <;> simp [cornF, a0, a1, a2, b0, b1, b2]
set_option maxHeartbeats 4000000 in
theorem corners_loop {kd r x y z : Int} (n1 : InI (-x)) (n2 : InI (-y)) (n3 : InI (-z)) (hx : InI x) (hy : InI y) (hz : InI z) {Q : Ex → St → Prop}
    (hQ : ∀ (ts : List AV) (m : List Blk) (l : AV), Fits (cornersP kd r x y z l none) ts → LA m 3 24 l 8 (cornF x y z) → Q (.exit 0) ⟨ts, m, []⟩)
    {ts : List AV} {m0 : List Blk} (hm0 : m0[0]? = some ⟨shI kd r x y z .nilslice, 48⟩) (h0 : Fits (cornersP kd r x y z .nilslice (some (.int .i64 0))) ts) :
    Good (loopA (exec Try.T (stOf [(177, pureS corn1S)]) cornersL 10 cornersLoop) 10 ⟨ts, m0, []⟩) Q := by
  refine loop_rule (fun k s => ∃ (i : Nat) (l : AV), i + k = 8 ∧ Fits (cornersP kd r x y z l (some (.int .i64 i))) s.ts ∧ s.m[0]? = some ⟨shI kd r x y z .nilslice, 48⟩ ∧ LA s.m 3 24 l i (cornF x y z) ∧ s.df = []) ?_ 10 8 _ (by omega)
    ⟨0, .nilslice, by omega, h0, hm0, LA.nil, rfl⟩
  rintro k ⟨ts, m, df⟩ ⟨i, l, hik, hfit, hm, hl, hd⟩
  simp only at hfit hm hl hd
  subst hd
  obtain ⟨f, rfl⟩ := fits_of hfit 0
  by_cases hi : i < 8
  · have hi1 : (i : Int) < 8 := by omega
    have hi2 : (0 : Int) ≤ i := by omega
    have w3 : IntKind.i64.wrap ((i : Int) + 1) = i + 1 := wrap_i64_in (by omega) (by omega)
    have w2 : IntKind.i64.wrap ((i : Int) / 2) = (i : Int) / 2 := wrap_i64_in (by omega) (by omega)
    have w4 : IntKind.i64.wrap ((i : Int) / 4) = (i : Int) / 4 := wrap_i64_in (by omega) (by omega)
    have q2 : (0 : Int) ≤ (i : Int) / 2 := by omega
    have q2b : (i : Int) / 2 < 8 := by omega
    have q4 : (0 : Int) ≤ (i : Int) / 4 := by omega
    have q4b : (i : Int) / 4 < 8 := by omega
    have d1 : ((i : Int) % 2 = 0) ↔ (i % 2 = 0) := by omega
    have d2 : ((i : Int) / 2 % 2 = 0) ↔ (i / 2 % 2 = 0) := by omega
    have d4 : ((i : Int) / 4 % 2 = 0) ↔ (i / 4 % 2 = 0) := by omega
    have hlen : 0 < m.length := (List.getElem?_eq_some_iff.1 hm).1
    have g3 : (∀ q, q ∈ refs l → q < m.length) = True := eq_true hl.ref.2.2
    have N0 : ∀ (h : 0 < m.length), m[0]'h = ⟨shI kd r x y z .nilslice, 48⟩ := fun h => Option.some.inj ((List.getElem?_eq_getElem h).symm.trans hm)
    have g0 := hl.ref
    have L0 : ∀ l, (m ++ l)[0]? = some ⟨shI kd r x y z .nilslice, 48⟩ := fun l => by rw [List.getElem?_append_left (List.getElem?_eq_some_iff.1 hm).1]; exact hm
    simp [-ofOR, ofOR_val, cornersLoop, cornersP, cornersL, Try.f139, hi1, hi2, w2, w4, q2, q2b, q4, q4b, d1, d2, d4, hlen, g3, N0, n1, n2, n3, hx, hy, hz]
    intro c
    simp only [good_bind, good_unblock]
    refine append_good (n := i) (n' := 1) (o' := 0) (F := cornF x y z) (g := fun j => [if i % 2 = 0 then -x else x, if i / 2 % 2 = 0 then -y else y, if i / 4 % 2 = 0 then -z else z][j]?.getD 0) Try.T_46 rfl (by decide) rfl (by simp) (hl.keep fun q hq => List.getElem?_append_left (hl.ref.2.2 q hq)) (by simp) rfl (by decide) (by omega) ?_ c
    intro m' v hk hlen2 hla
    simp [w3]
    refine ⟨k - 1, by omega, i + 1, by omega, v, ⟨rfl, by omega⟩, ?_, ?_⟩
    · rw [hk 0 (by simp) (hl.not_ref hm (show (48 : TypeId) ≠ 24 by decide)), List.getElem?_append_left hlen]; exact hm
    · refine hla.congr fun j hj => ?_
      obtain ⟨c0, c1, c2⟩ := corn_get (x := x) (y := y) (z := z) (i := i)
      by_cases hj0 : j < i * 3
      · rw [if_pos hj0]
      · rw [if_neg hj0, Nat.zero_add]
        have : j = i * 3 ∨ j = i * 3 + 1 ∨ j = i * 3 + 2 := by omega
        rcases this with rfl | rfl | rfl
        · rw [c0, Nat.sub_self]; rfl
        · rw [c1, show i * 3 + 1 - i * 3 = 1 from by omega]; rfl
        · rw [c2, show i * 3 + 2 - i * 3 = 2 from by omega]; rfl
  · have : i = 8 := by omega
    subst this
    simp [cornersLoop, cornersP, Try.f139]
    exact hQ _ _ _ (by simp [cornersP]) hl
theorem corners_ok : SumOk Try.prog 139 cornersS := by
  refine sum_mem (L := cornersL) (n := 10) (S := stOf [(177, pureS corn1S)]) drawS Try.T_ok (stOf_ok (by simp [corn1_ok])) Try.func139 rfl (by kernel_rfl) (by kernel_rfl) ?_
  intro args env nxt h
  unfold cornersS at h ⊢
  split at h
  · rename_i kd r x y z
    split at h
    · rename_i hcond
      obtain ⟨n1, n2, n3, hx, hy, hz⟩ := id hcond
      refine ⟨[.agg [.int .i64 kd, .int .i64 r, .int .i64 x, .int .i64 y, .int .i64 z, .nilslice]], [], [], ⟨rfl, rfl, by simp, by simp, by simp, by simp⟩, ?_⟩
      simp [-loopA_succ, Try.f139]
      simp only [good_bind, good_unblock]
      refine corners_loop (kd := kd) (r := r) n1 n2 n3 hx hy hz (fun ts m l hfit hla => ?_) rfl ?_
      · obtain ⟨f, rfl⟩ := fits_of hfit 0
        rcases hla with ⟨-, h8⟩ | ⟨p, c, rfl, hp⟩
        · omega
        · simp [cornersP, hcond]
          refine ⟨[p], none, .inr ⟨_, ⟨c, rfl⟩, ?_⟩⟩
          exact told_one (by simp) hp (by simp) (by simp) (by simp [AV.ren, glob]) (by simp) (by simp)
      · simp [cornersP]
    · simp at h
  · simp at h
noncomputable def kin3S : Sum := fun args _ nxt => match args with
  | [.agg [.int .i64 _, .int .i64 _, .int .i64 _, .int .i64 _, .int .i64 _, .nilslice]] => .val (.slice nxt 0 1 1) [] [VB 1 0 (fun _ => 0)]
  | _ => .fail
theorem kin3_ok : SumOk Try.prog 135 kin3S := by
  refine sum_mem (L := fun _ => none) (n := 1) (S := stOf []) drawS Try.T_ok (stOf_ok (by simp)) Try.func135 rfl (by kernel_rfl) (by kernel_rfl) ?_
  intro args env nxt h
  unfold kin3S at h ⊢
  split at h
  · rename_i kd r x y z
    refine ⟨[.agg [.int .i64 kd, .int .i64 r, .int .i64 x, .int .i64 y, .int .i64 z, .nilslice]], [], [], ⟨rfl, rfl, by simp, by simp, by simp, by simp⟩, ?_⟩
    simp [Try.f135]
    rw [vb_1 (F := fun _ => 0) rfl rfl rfl]
    exact ⟨[1], none, told_one (by simp) rfl (by simp) (by simp) (by simp [AV.ren, glob]) (by simp) (by simp)⟩
  · simp at h
noncomputable def kin5S : Sum := fun args _ nxt => match args with
  | [.agg [.int .i64 _, .int .i64 _, .int .i64 _, .int .i64 _, .int .i64 z, .nilslice]] => open Classical in if InI (-z) ∧ InI z then .val (.slice nxt 0 2 2) [] [VB 2 0 (corF 2 0 0 z)] else .fail
  | _ => .fail
theorem kin5_ok : SumOk Try.prog 137 kin5S := by
  refine sum_mem (L := fun _ => none) (n := 1) (S := stOf []) drawS Try.T_ok (stOf_ok (by simp)) Try.func137 rfl (by kernel_rfl) (by kernel_rfl) ?_
  intro args env nxt h
  unfold kin5S at h ⊢
  split at h
  · rename_i kd r x y z
    split at h
    · rename_i hcond
      obtain ⟨n1, hz⟩ := id hcond
      have w1 : IntKind.i64.wrap (-z) = -z := wrap_i64_in n1.1 n1.2
      refine ⟨[.agg [.int .i64 kd, .int .i64 r, .int .i64 x, .int .i64 y, .int .i64 z, .nilslice]], [], [], ⟨rfl, rfl, by simp, by simp, by simp, by simp⟩, ?_⟩
      simp [Try.f137, w1, hcond]
      rw [vb_2 (F := corF 2 0 0 z) (by simp [corF]) (by simp [corF]) (by simp [corF]) (by simp [corF]) (by simp [corF]) (by simp [corF])]
      exact ⟨[1], none, told_one (by simp) rfl (by simp) (by simp) (by simp [AV.ren, glob]) (by simp) (by simp)⟩
    · simp at h
  · simp at h
theorem may_in {kd r x y z : Int} (h : OkN kd r x y z) : (kd = 1 ∧ x = 0 ∧ y = 0 ∧ z = 0 ∨ kd = 2 ∧ x = 0 ∧ y = 0 ∧ 0 < z ∨ kd = 3 ∧ 65536 ≤ x ∧ 65536 ≤ y ∧ 65536 ≤ z) ∧ 0 ≤ r ∧ r ≤ 274877906944 ∧ Size3 x y z := by
  obtain ⟨h1, h2, h3⟩ := h
  rcases h1 with ⟨rfl, a, b, c, d⟩ | ⟨rfl, a, b, c, d⟩ | ⟨rfl, a, b⟩
  · exact ⟨.inl ⟨rfl, b, c, d⟩, by omega, h2, h3⟩
  · exact ⟨.inr (.inl ⟨rfl, b, c, d⟩), by omega, h2, h3⟩
  · have := min3_le.1 b
    exact ⟨.inr (.inr ⟨rfl, this⟩), a, h2, h3⟩
theorem size_neg {x y z : Int} (h : Size3 x y z) : InI (-x) ∧ InI (-y) ∧ InI (-z) ∧ InI x ∧ InI y ∧ InI z := by unfold Size3 at h; unfold InI; omega
noncomputable def coreNS : Sum := fun args _ nxt => match args with
  | [.agg [.int .i64 kd, .int .i64 r, .int .i64 x, .int .i64 y, .int .i64 z, .nilslice]] => open Classical in if InI kd ∧ InI r ∧ InI x ∧ InI y ∧ InI z then
      (if OkN kd r x y z then .any fun c => .val (.tup [.slice nxt 0 (corN kd) (corN kd + c), .int .i64 0]) [] [VB (corN kd) c (corF kd x y z)] else .val (.tup [.nilslice, .int .i64 2]) [] []) else .fail
  | _ => .fail
def coreL (i : Nat) : Option DM := if i = 4 then some (.quiet 6) else none
set_option maxHeartbeats 4000000 in
theorem coreN_ok : SumOk Try.prog 29 coreNS := by
  refine sum_mem (L := coreL) (n := 1) (S := stOf [(78, pureS checkNS), (79, kindsS), (135, kin3S), (137, kin5S), (139, cornersS)]) drawS Try.T_ok (stOf_ok (by simp [checkN_ok, kinds_ok, kin3_ok, kin5_ok, corners_ok])) Try.func29 rfl (by kernel_rfl) (by kernel_rfl) ?_
  intro args env nxt h
  unfold coreNS at h ⊢
  split at h
  · rename_i kd r x y z
    split at h
    · rename_i hcond
      obtain ⟨hk, hr, hx, hy, hz⟩ := id hcond
      refine ⟨[.agg [.int .i64 kd, .int .i64 r, .int .i64 x, .int .i64 y, .int .i64 z, .nilslice]], [], [], ⟨rfl, rfl, by simp, by simp, by simp, by simp⟩, ?_⟩
      by_cases ok : OkN kd r x y z
      · obtain ⟨hm, -, -, hs⟩ := may_in ok
        have sn := size_neg hs
        rcases hm with ⟨rfl, -⟩ | ⟨rfl, -⟩ | ⟨rfl, -⟩
        · simp [Try.f29, coreL, kindsS, kin3S, hk, hr, hx, hy, hz, ok]
          have e1 : corF 1 x y z = fun _ => 0 := by funext j; simp [corF]
          have c1 : corN 1 = 1 := by simp [corN]
          refine ⟨[2], none, .inr ⟨_, ⟨0, rfl⟩, ?_⟩⟩
          rw [e1, c1]
          exact told_one (by simp) rfl (by simp) (by simp) (by simp [AV.ren, renL, glob]) (by simp) (by simp)
        · simp [Try.f29, coreL, kindsS, kin5S, hk, hr, hx, hy, hz, ok, sn]
          have e1 : corF 2 x y z = corF 2 0 0 z := by funext j; simp [corF]
          have c1 : corN 2 = 2 := by simp [corN]
          refine ⟨[2], none, .inr ⟨_, ⟨0, rfl⟩, ?_⟩⟩
          rw [e1, c1]
          exact told_one (by simp) rfl (by simp) (by simp) (by simp [AV.ren, renL, glob]) (by simp) (by simp)
        · simp [Try.f29, coreL, kindsS, cornersS, hk, hr, hx, hy, hz, ok, sn]
          intro n
          have e1 : corF 3 x y z = cornF x y z := by funext j; simp [corF]
          have c1 : corN 3 = 8 := by simp [corN]
          refine ⟨[2], none, .inr ⟨_, ⟨n, rfl⟩, ?_⟩⟩
          rw [e1, c1]
          exact told_one (by simp) rfl (by simp) (by simp) (by simp [AV.ren, renL, glob]) (by simp) (by simp)
      · simp [Try.f29, hk, hr, hx, hy, hz, ok]
        exact ⟨[], none, told_none (by simp) (by simp) (by simp) (by simp)⟩
    · simp at h
  · simp at h

end Go.X
