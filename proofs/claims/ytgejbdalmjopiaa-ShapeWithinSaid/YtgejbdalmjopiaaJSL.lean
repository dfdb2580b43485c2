/- No point of a core is further than the halves, or the reach, less the radius; some are as far. -/
import Derived.Test.YtgejbdalmjopiaaJSE
import Derived.Test.YtgejbdalmjopiaaJUQ
namespace Go.X
open Go.Proofs
attribute [local irreducible] Good
noncomputable def belS : List AV → PR
  | [.agg [.int .i64 x, .int .i64 y, .int .i64 z], .agg [.int .i64 a, .int .i64 b, .int .i64 c]] => open Classical in if (SmN x ∧ SmN y ∧ SmN z) ∧ (x ≤ a ∧ y ≤ b ∧ z ≤ c) ∧ (-x ≤ a ∧ -y ≤ b ∧ -z ≤ c) then .val (.bool true) else .fail
  | _ => .fail
@[simp] theorem belS_val {x y z a b c : Int} (h : (SmN x ∧ SmN y ∧ SmN z) ∧ (x ≤ a ∧ y ≤ b ∧ z ≤ c) ∧ (-x ≤ a ∧ -y ≤ b ∧ -z ≤ c)) : belS [.agg [.int .i64 x, .int .i64 y, .int .i64 z], .agg [.int .i64 a, .int .i64 b, .int .i64 c]] = .val (.bool true) := if_pos h
theorem bel_ok : SumOk Try.prog 12 (pureS belS) := by
  refine sum_fn (L := fun _ => none) (n := 1) (S := stOf []) drawS Try.T_ok (stOf_ok (by simp)) Try.func12 rfl (by kernel_rfl) (by kernel_rfl) ?_
    (by intro args v h; unfold belS at h; split at h <;> (try split at h) <;> simp at h)
  intro args v h
  unfold belS at h
  split at h
  · rename_i x y z a b c
    split at h
    · rename_i hc
      obtain ⟨⟨hx, hy, hz⟩, ⟨l1, l2, l3⟩, l4, l5, l6⟩ := hc
      cases h
      refine ⟨by simp, by simp, by simp, ?_⟩
      unfold SmN at hx hy hz
      have w1 : IntKind.i64.wrap (-x) = -x := wrap_i64_in (by omega) (by omega)
      have w2 : IntKind.i64.wrap (-y) = -y := wrap_i64_in (by omega) (by omega)
      have w3 : IntKind.i64.wrap (-z) = -z := wrap_i64_in (by omega) (by omega)
      simp [Try.f12, w1, w2, w3, l1, l2, l3, l4, l5, l6]
    · simp at h
  · simp at h
noncomputable def swST : List (FuncId × Sum) := [(9, coreBS), (10, halfBS), (11, reachBS), (12, pureS belS), (13, pureS vLenUpS), (8, pureS awake09S)]
noncomputable def swLoop : Code := match Try.f3.body with | some (.seq _ (.seq _ (.seq _ (.seq _ (.seq _ (.seq _ (.seq _ (.seq _ (.seq _ (.seq (.seq _ (.block _ (.loop c))) _)))))))))) => c | _ => .skip
noncomputable def swC0 : Code := match swLoop with | .seq c _ => c | _ => .skip
noncomputable def swR15 : Code := match swLoop with | .seq _ (.seq (.block _ (.seq c _)) _) => c | _ => .skip
noncomputable def swR17 : Code := match swLoop with | .seq _ (.seq (.block _ (.seq _ (.seq c _))) _) => c | _ => .skip
noncomputable def swR18 : Code := match swLoop with | .seq _ (.seq (.block _ (.seq _ (.seq _ (.seq c _)))) _) => c | _ => .skip
noncomputable def swR19 : Code := match swLoop with | .seq _ (.seq (.block _ (.seq _ (.seq _ (.seq _ (.seq c _))))) _) => c | _ => .skip
noncomputable def swR20 : Code := match swLoop with | .seq _ (.seq (.block _ (.seq _ (.seq _ (.seq _ (.seq _ c))))) _) => c | _ => .skip
noncomputable def swR14 : Code := match swLoop with | .seq _ (.seq _ c) => c | _ => .skip
theorem swLoop_eq : swLoop = .seq swC0 (.seq (.block 1 (.seq swR15 (.seq swR17 (.seq swR18 (.seq swR19 swR20))))) swR14) := rfl
noncomputable def swP (a b p N k : Nat) (K r : Int) (bx bY bz bf : Bool) (i : Option AV) : List (Option AV) := [none, some (.ptr a 0), none, some (.slice p 0 N (N + k)), none, some (.ptr b 0), none, some (.int .i64 (K + r)), none, some (.bool bx), some (.bool bY), some (.bool bz), some (.bool bf), i, none, none, none, none, none, none, none, none, none, none, none, none, none, none, none, none, none, none, none, none, none, none, none, none, none, none, none, none, none, none, none, none, none, none, none, none, none, none, none, none, none, none, none, none, none, none, none, none, none, none, none, none, none, none, none, none, none, none, none, none, none, none, none, none, none, none, none, none, none, none, none, none, none, none, none, none, none, none, none, none, none, none, none, none, none, none, none, none, none, none, none, none, none, none, none, none, none, none, none, none, none, none, none, none, none, none, none, none, none, none, none, none, none, none, none, none, none, none, none, none, none, none, none, none, none, none, none, none, none, none, none, none, none, none, none, none, none, none, none, none, none, none, none, none, none, none, none, none, none, none, none, none, none, none, none, none, none, none, none, none, none, none, none, none, none, none, none, none, none, none, none, none, none, none, none, none, none, none]
/-- what a piece comes to: on it goes, memory as it was -/
def swN (a b p N k : Nat) (K r : Int) (mi : List Blk) (bx bY bz bf : Bool) (i : Option AV) (x : Ex) (s : St) : Prop := x = .norm ∧ s.m = mi ∧ s.df = [] ∧ Fits (swP a b p N k K r bx bY bz bf i) s.ts
set_option maxHeartbeats 400000000 in
set_option maxRecDepth 100000 in
theorem sw17_ok {a b p N k i : Nat} {kd r x y z K X Y Z : Int} {l : AV} {F : Nat → Int} {mi : List Blk} {bx bY bz bf : Bool} {ts : List AV} (_hN : N ≤ 100) (hi : i < N) (hF : ∀ j, j < N * 3 → SmN (F j))
    (ha : mi[a]? = some ⟨[.int .i64 kd, .int .i64 r, .int .i64 x, .int .i64 y, .int .i64 z, l], 27⟩) (hp : mi[p]? = some (VB N k F)) (hb : mi[b]? = some ⟨[.int .i64 X, .int .i64 Y, .int .i64 Z], 24⟩)
    (h0 : Fits (swP a b p N k K r bx bY bz bf (some (.int .i64 i))) ts) :
    Good (exec Try.T (stOf swST) (fun _ => none) 150 swR17 ⟨ts, mi, []⟩) (swN a b p N k K r mi (bx || (decide (F (i * 3) = X) || decide (-F (i * 3) = X))) bY bz bf (some (.int .i64 i))) := by
  obtain ⟨g, rfl⟩ := fits_of h0 0
  obtain ⟨⟨lp, Np⟩, l0⟩ := load_VB hp hi
  obtain ⟨la, Na⟩ := List.getElem?_eq_some_iff.1 ha
  obtain ⟨lb, Nb⟩ := List.getElem?_eq_some_iff.1 hb
  have Na' : ∀ h : a < mi.length, mi[a]'h = ⟨[.int .i64 kd, .int .i64 r, .int .i64 x, .int .i64 y, .int .i64 z, l], 27⟩ := fun _ => Na
  have Nb' : ∀ h : b < mi.length, mi[b]'h = ⟨[.int .i64 X, .int .i64 Y, .int .i64 Z], 24⟩ := fun _ => Nb
  have hi1 : (i : Int) < N := by omega
  have e0 : i * 3 < (N + k) * 3 := by omega
  have c0 : cutL (N * 3) F (i * 3) = F (i * 3) := if_pos (by omega)
  have s0 := hF (i * 3) (by omega)
  have w0 : IntKind.i64.wrap (-F (i * 3)) = -F (i * 3) := by unfold SmN at s0; exact wrap_i64_in (by omega) (by omega)
  cases bx with
  | true => simp (maxSteps := 10000000) [swR17, swLoop, swP, swST, swN, Try.f3]
  | false =>
    by_cases e1 : F (i * 3) = X
    · simp (maxSteps := 10000000) [swR17, swLoop, swP, swST, swN, Try.f3, hi1, lp, Np, lb, Nb', e0, c0, e1]
    · by_cases e2 : -F (i * 3) = X
      · have w2 : IntKind.i64.wrap X = X := by rw [← e2]; exact w0
        simp (maxSteps := 10000000) [swR17, swLoop, swP, swST, swN, Try.f3, hi1, lp, Np, lb, Nb', e0, c0, e1, e2, w2]
      · simp (maxSteps := 10000000) [swR17, swLoop, swP, swST, swN, Try.f3, hi1, lp, Np, lb, Nb', e0, c0, w0, e1, e2]
set_option maxHeartbeats 400000000 in
set_option maxRecDepth 100000 in
theorem sw18_ok {a b p N k i : Nat} {kd r x y z K X Y Z : Int} {l : AV} {F : Nat → Int} {mi : List Blk} {bx bY bz bf : Bool} {ts : List AV} (_hN : N ≤ 100) (hi : i < N) (hF : ∀ j, j < N * 3 → SmN (F j))
    (ha : mi[a]? = some ⟨[.int .i64 kd, .int .i64 r, .int .i64 x, .int .i64 y, .int .i64 z, l], 27⟩) (hp : mi[p]? = some (VB N k F)) (hb : mi[b]? = some ⟨[.int .i64 X, .int .i64 Y, .int .i64 Z], 24⟩)
    (h0 : Fits (swP a b p N k K r bx bY bz bf (some (.int .i64 i))) ts) :
    Good (exec Try.T (stOf swST) (fun _ => none) 150 swR18 ⟨ts, mi, []⟩) (swN a b p N k K r mi bx (bY || (decide (F (i * 3 + 1) = Y) || decide (-F (i * 3 + 1) = Y))) bz bf (some (.int .i64 i))) := by
  obtain ⟨g, rfl⟩ := fits_of h0 0
  obtain ⟨⟨lp, Np⟩, l0⟩ := load_VB hp hi
  obtain ⟨la, Na⟩ := List.getElem?_eq_some_iff.1 ha
  obtain ⟨lb, Nb⟩ := List.getElem?_eq_some_iff.1 hb
  have Na' : ∀ h : a < mi.length, mi[a]'h = ⟨[.int .i64 kd, .int .i64 r, .int .i64 x, .int .i64 y, .int .i64 z, l], 27⟩ := fun _ => Na
  have Nb' : ∀ h : b < mi.length, mi[b]'h = ⟨[.int .i64 X, .int .i64 Y, .int .i64 Z], 24⟩ := fun _ => Nb
  have hi1 : (i : Int) < N := by omega
  have e0 : i * 3 + 1 < (N + k) * 3 := by omega
  have c0 : cutL (N * 3) F (i * 3 + 1) = F (i * 3 + 1) := if_pos (by omega)
  have s0 := hF (i * 3 + 1) (by omega)
  have w0 : IntKind.i64.wrap (-F (i * 3 + 1)) = -F (i * 3 + 1) := by unfold SmN at s0; exact wrap_i64_in (by omega) (by omega)
  cases bY with
  | true => simp (maxSteps := 10000000) [swR18, swLoop, swP, swST, swN, Try.f3]
  | false =>
    by_cases e1 : F (i * 3 + 1) = Y
    · simp (maxSteps := 10000000) [swR18, swLoop, swP, swST, swN, Try.f3, hi1, lp, Np, lb, Nb', e0, c0, e1]
    · by_cases e2 : -F (i * 3 + 1) = Y
      · have w2 : IntKind.i64.wrap Y = Y := by rw [← e2]; exact w0
        simp (maxSteps := 10000000) [swR18, swLoop, swP, swST, swN, Try.f3, hi1, lp, Np, lb, Nb', e0, c0, e1, e2, w2]
      · simp (maxSteps := 10000000) [swR18, swLoop, swP, swST, swN, Try.f3, hi1, lp, Np, lb, Nb', e0, c0, w0, e1, e2]
set_option maxHeartbeats 400000000 in
set_option maxRecDepth 100000 in
theorem sw19_ok {a b p N k i : Nat} {kd r x y z K X Y Z : Int} {l : AV} {F : Nat → Int} {mi : List Blk} {bx bY bz bf : Bool} {ts : List AV} (_hN : N ≤ 100) (hi : i < N) (hF : ∀ j, j < N * 3 → SmN (F j))
    (ha : mi[a]? = some ⟨[.int .i64 kd, .int .i64 r, .int .i64 x, .int .i64 y, .int .i64 z, l], 27⟩) (hp : mi[p]? = some (VB N k F)) (hb : mi[b]? = some ⟨[.int .i64 X, .int .i64 Y, .int .i64 Z], 24⟩)
    (h0 : Fits (swP a b p N k K r bx bY bz bf (some (.int .i64 i))) ts) :
    Good (exec Try.T (stOf swST) (fun _ => none) 150 swR19 ⟨ts, mi, []⟩) (swN a b p N k K r mi bx bY (bz || (decide (F (i * 3 + 2) = Z) || decide (-F (i * 3 + 2) = Z))) bf (some (.int .i64 i))) := by
  obtain ⟨g, rfl⟩ := fits_of h0 0
  obtain ⟨⟨lp, Np⟩, l0⟩ := load_VB hp hi
  obtain ⟨la, Na⟩ := List.getElem?_eq_some_iff.1 ha
  obtain ⟨lb, Nb⟩ := List.getElem?_eq_some_iff.1 hb
  have Na' : ∀ h : a < mi.length, mi[a]'h = ⟨[.int .i64 kd, .int .i64 r, .int .i64 x, .int .i64 y, .int .i64 z, l], 27⟩ := fun _ => Na
  have Nb' : ∀ h : b < mi.length, mi[b]'h = ⟨[.int .i64 X, .int .i64 Y, .int .i64 Z], 24⟩ := fun _ => Nb
  have hi1 : (i : Int) < N := by omega
  have e0 : i * 3 + 2 < (N + k) * 3 := by omega
  have c0 : cutL (N * 3) F (i * 3 + 2) = F (i * 3 + 2) := if_pos (by omega)
  have s0 := hF (i * 3 + 2) (by omega)
  have w0 : IntKind.i64.wrap (-F (i * 3 + 2)) = -F (i * 3 + 2) := by unfold SmN at s0; exact wrap_i64_in (by omega) (by omega)
  cases bz with
  | true => simp (maxSteps := 10000000) [swR19, swLoop, swP, swST, swN, Try.f3]
  | false =>
    by_cases e1 : F (i * 3 + 2) = Z
    · simp (maxSteps := 10000000) [swR19, swLoop, swP, swST, swN, Try.f3, hi1, lp, Np, lb, Nb', e0, c0, e1]
    · by_cases e2 : -F (i * 3 + 2) = Z
      · have w2 : IntKind.i64.wrap Z = Z := by rw [← e2]; exact w0
        simp (maxSteps := 10000000) [swR19, swLoop, swP, swST, swN, Try.f3, hi1, lp, Np, lb, Nb', e0, c0, e1, e2, w2]
      · simp (maxSteps := 10000000) [swR19, swLoop, swP, swST, swN, Try.f3, hi1, lp, Np, lb, Nb', e0, c0, w0, e1, e2]
set_option maxHeartbeats 400000000 in
set_option maxRecDepth 100000 in
theorem sw20_ok {a b p N k i : Nat} {kd r x y z K X Y Z : Int} {l : AV} {F : Nat → Int} {mi : List Blk} {bx bY bz bf : Bool} {ts : List AV} (_hN : N ≤ 100) (hi : i < N) (hF : ∀ j, j < N * 3 → SmN (F j))
    (ha : mi[a]? = some ⟨[.int .i64 kd, .int .i64 r, .int .i64 x, .int .i64 y, .int .i64 z, l], 27⟩) (hp : mi[p]? = some (VB N k F)) (hb : mi[b]? = some ⟨[.int .i64 X, .int .i64 Y, .int .i64 Z], 24⟩)
    (h0 : Fits (swP a b p N k K r bx bY bz bf (some (.int .i64 i))) ts) (wk : IntKind.i64.wrap (K + r - r) = K) :
    Good (exec Try.T (stOf swST) (fun _ => none) 150 swR20 ⟨ts, mi, []⟩) (swN a b p N k K r mi bx bY bz (bf || decide (lenF F i = K)) (some (.int .i64 i))) := by
  obtain ⟨g, rfl⟩ := fits_of h0 0
  obtain ⟨⟨lp, Np⟩, l0⟩ := load_VB hp hi
  obtain ⟨la, Na⟩ := List.getElem?_eq_some_iff.1 ha
  obtain ⟨lb, Nb⟩ := List.getElem?_eq_some_iff.1 hb
  have Na' : ∀ h : a < mi.length, mi[a]'h = ⟨[.int .i64 kd, .int .i64 r, .int .i64 x, .int .i64 y, .int .i64 z, l], 27⟩ := fun _ => Na
  have Nb' : ∀ h : b < mi.length, mi[b]'h = ⟨[.int .i64 X, .int .i64 Y, .int .i64 Z], 24⟩ := fun _ => Nb
  have hi1 : (i : Int) < N := by omega
  have wk2 : IntKind.i64.wrap K = K := by simpa using wk
  obtain ⟨s0, s1, s2⟩ := sm3 hF hi
  have p0 : InI (F (i * 3)) := sm_in s0
  have p1 : InI (F (i * 3 + 1)) := sm_in s1
  have p2 : InI (F (i * 3 + 2)) := sm_in s2
  have eL : clampI (luI (F (i * 3) * F (i * 3) + F (i * 3 + 1) * F (i * 3 + 1) + F (i * 3 + 2) * F (i * 3 + 2))) = lenF F i := rfl
  cases bf with
  | true => simp (maxSteps := 10000000) [swR20, swLoop, swP, swST, swN, Try.f3]
  | false =>
    by_cases e1 : lenF F i = K
    · simp (maxSteps := 10000000) [swR20, swLoop, swP, swST, swN, Try.f3, hi1, lp, Np, la, Na', ↓l0, p0, p1, p2, wk2, eL, e1]
    · simp (maxSteps := 10000000) [swR20, swLoop, swP, swST, swN, Try.f3, hi1, lp, Np, la, Na', ↓l0, p0, p1, p2, wk2, eL, e1]
set_option maxHeartbeats 400000000 in
set_option maxRecDepth 100000 in
theorem sw15_ok {a b p N k i : Nat} {kd r x y z K X Y Z : Int} {l : AV} {F : Nat → Int} {mi : List Blk} {bx bY bz bf : Bool} {ts : List AV} (_hN : N ≤ 100) (hi : i < N) (hF : ∀ j, j < N * 3 → SmN (F j))
    (ha : mi[a]? = some ⟨[.int .i64 kd, .int .i64 r, .int .i64 x, .int .i64 y, .int .i64 z, l], 27⟩) (hp : mi[p]? = some (VB N k F)) (hb : mi[b]? = some ⟨[.int .i64 X, .int .i64 Y, .int .i64 Z], 24⟩)
    (h0 : Fits (swP a b p N k K r bx bY bz bf (some (.int .i64 i))) ts) (wk : IntKind.i64.wrap (K + r - r) = K) (hk : lenF F i ≤ K) (hx : F (i * 3) ≤ X ∧ -F (i * 3) ≤ X) (hy : F (i * 3 + 1) ≤ Y ∧ -F (i * 3 + 1) ≤ Y) (hz : F (i * 3 + 2) ≤ Z ∧ -F (i * 3 + 2) ≤ Z) :
    Good (exec Try.T (stOf swST) (fun _ => none) 150 swR15 ⟨ts, mi, []⟩) (swN a b p N k K r mi bx bY bz bf (some (.int .i64 i))) := by
  obtain ⟨g, rfl⟩ := fits_of h0 0
  obtain ⟨⟨lp, Np⟩, l0⟩ := load_VB hp hi
  obtain ⟨la, Na⟩ := List.getElem?_eq_some_iff.1 ha
  obtain ⟨lb, Nb⟩ := List.getElem?_eq_some_iff.1 hb
  have Na' : ∀ h : a < mi.length, mi[a]'h = ⟨[.int .i64 kd, .int .i64 r, .int .i64 x, .int .i64 y, .int .i64 z, l], 27⟩ := fun _ => Na
  have Nb' : ∀ h : b < mi.length, mi[b]'h = ⟨[.int .i64 X, .int .i64 Y, .int .i64 Z], 24⟩ := fun _ => Nb
  have hi1 : (i : Int) < N := by omega
  have wk2 : IntKind.i64.wrap K = K := by simpa using wk
  obtain ⟨s0, s1, s2⟩ := sm3 hF hi
  have p0 : InI (F (i * 3)) := sm_in s0
  have p1 : InI (F (i * 3 + 1)) := sm_in s1
  have p2 : InI (F (i * 3 + 2)) := sm_in s2
  have eL : clampI (luI (F (i * 3) * F (i * 3) + F (i * 3 + 1) * F (i * 3 + 1) + F (i * 3 + 2) * F (i * 3 + 2))) = lenF F i := rfl
  simp (maxSteps := 10000000) [swR15, swLoop, swP, swST, swN, Try.f3, hi1, lp, Np, la, Na', lb, Nb', ↓l0, p0, p1, p2, s0, s1, s2, wk2, eL, Int.not_lt.2 hk, hx.1, hx.2, hy.1, hy.2, hz.1, hz.2]
set_option maxHeartbeats 400000000 in
set_option maxRecDepth 100000 in
theorem sw14_ok {a b p N k i : Nat} {r K : Int} {mi : List Blk} {bx bY bz bf : Bool} {ts : List AV} (hN : N ≤ 100) (hi : i < N) (h0 : Fits (swP a b p N k K r bx bY bz bf (some (.int .i64 i))) ts) :
    Good (exec Try.T (stOf swST) (fun _ => none) 150 swR14 ⟨ts, mi, []⟩) (swN a b p N k K r mi bx bY bz bf (some (.int .i64 ((i : Int) + 1)))) := by
  obtain ⟨g, rfl⟩ := fits_of h0 0
  have w1 : IntKind.i64.wrap ((i : Int) + 1) = i + 1 := wrap_i64_in (by omega) (by omega)
  simp (maxSteps := 10000000) [swR14, swLoop, swP, swST, swN, Try.f3, w1]
set_option maxHeartbeats 400000000 in
set_option maxRecDepth 100000 in
theorem swC0_ok {a b p N k i : Nat} {r K : Int} {mi : List Blk} {bx bY bz bf : Bool} {ts : List AV} (hi : i < N) (h0 : Fits (swP a b p N k K r bx bY bz bf (some (.int .i64 i))) ts) :
    Good (exec Try.T (stOf swST) (fun _ => none) 150 swC0 ⟨ts, mi, []⟩) (swN a b p N k K r mi bx bY bz bf (some (.int .i64 i))) := by
  obtain ⟨g, rfl⟩ := fits_of h0 0
  have hi1 : (i : Int) < N := by omega
  simp (maxSteps := 10000000) [swC0, swLoop, swP, swST, swN, Try.f3, hi1]
set_option maxHeartbeats 400000000 in
set_option maxRecDepth 100000 in
theorem swC0_end {a b p N k : Nat} {r K : Int} {mi : List Blk} {bx bY bz bf : Bool} {ts : List AV} (h0 : Fits (swP a b p N k K r bx bY bz bf (some (.int .i64 N))) ts) :
    Good (exec Try.T (stOf swST) (fun _ => none) 150 swC0 ⟨ts, mi, []⟩) (fun x s => x = .exit 0 ∧ s.m = mi ∧ s.df = [] ∧ Fits (swP a b p N k K r bx bY bz bf none) s.ts) := by
  obtain ⟨g, rfl⟩ := fits_of h0 0
  simp (maxSteps := 10000000) [swC0, swLoop, swP, swST, Try.f3]
theorem sw_loop {a b p N k : Nat} {kd r x y z K X Y Z : Int} {l : AV} {F : Nat → Int} {mi : List Blk} {ts : List AV} (hN : N ≤ 100) (hN0 : 0 < N) (hF : ∀ j, j < N * 3 → SmN (F j))
    (ha : mi[a]? = some ⟨[.int .i64 kd, .int .i64 r, .int .i64 x, .int .i64 y, .int .i64 z, l], 27⟩) (hp : mi[p]? = some (VB N k F)) (hb : mi[b]? = some ⟨[.int .i64 X, .int .i64 Y, .int .i64 Z], 24⟩)
    (hX : mxI F 0 N = X) (hY : mxI F 1 N = Y) (hZ : mxI F 2 N = Z) (hK : farI F N = K) (wk : IntKind.i64.wrap (K + r - r) = K)
    {Q : Ex → St → Prop} (hQ : ∀ (ts : List AV), Fits (swP a b p N k K r true true true true none) ts → Q (.exit 0) ⟨ts, mi, []⟩) (h0 : Fits (swP a b p N k K r false false false false (some (.int .i64 0))) ts) :
    Good (loopA (exec Try.T (stOf swST) (fun _ => none) 150 swLoop) 150 ⟨ts, mi, []⟩) Q := by
  refine loop_rule (fun x s => ∃ (i : Nat) (bx bY bz bf : Bool), i + x = N ∧ (∀ j, j < i → F (j * 3) = X ∨ -F (j * 3) = X → bx = true) ∧ (∀ j, j < i → F (j * 3 + 1) = Y ∨ -F (j * 3 + 1) = Y → bY = true) ∧ (∀ j, j < i → F (j * 3 + 2) = Z ∨ -F (j * 3 + 2) = Z → bz = true) ∧ (∀ j, j < i → lenF F j = K → bf = true) ∧
      Fits (swP a b p N k K r bx bY bz bf (some (.int .i64 i))) s.ts ∧ s.m = mi ∧ s.df = []) ?_ 150 N _ (by omega)
    ⟨0, false, false, false, false, by omega, fun _ h => by omega, fun _ h => by omega, fun _ h => by omega, fun _ h => by omega, h0, rfl, rfl⟩
  rintro x' ⟨ts, m, df⟩ ⟨i, bx, bY, bz, bf, hix, kx, ky, kz, kf, hfit, hm, hd⟩
  simp only at hfit hm hd
  subst hm hd
  rw [swLoop_eq]
  simp only [exec_seq, exec_block, good_bind, good_unblock]
  by_cases hi : i < N
  · refine (swC0_ok hi hfit).mono fun e s h => ?_
    obtain ⟨ts1, m1, d1⟩ := s
    obtain ⟨rfl, e1, e2, f1⟩ := h
    simp only at e1 e2 f1
    subst e1 e2
    have x0 := mxI_le (F := F) (c := 0) hi
    have y0 := mxI_le (F := F) (c := 1) hi
    have z0 := mxI_le (F := F) (c := 2) hi
    rw [hX] at x0
    rw [hY] at y0
    rw [hZ] at z0
    have k0 := farI_le (F := F) hi
    rw [hK] at k0
    refine (sw15_ok hN hi hF ha hp hb f1 wk k0 x0 y0 z0).mono fun e s h => ?_
    obtain ⟨ts2, m2, d2⟩ := s
    obtain ⟨rfl, e1, e2, f2⟩ := h
    simp only at e1 e2 f2
    subst e1 e2
    refine (sw17_ok hN hi hF ha hp hb f2).mono fun e s h => ?_
    obtain ⟨ts3, m3, d3⟩ := s
    obtain ⟨rfl, e1, e2, f3⟩ := h
    simp only at e1 e2 f3
    subst e1 e2
    refine (sw18_ok hN hi hF ha hp hb f3).mono fun e s h => ?_
    obtain ⟨ts4, m4, d4⟩ := s
    obtain ⟨rfl, e1, e2, f4⟩ := h
    simp only at e1 e2 f4
    subst e1 e2
    refine (sw19_ok hN hi hF ha hp hb f4).mono fun e s h => ?_
    obtain ⟨ts5, m5, d5⟩ := s
    obtain ⟨rfl, e1, e2, f5⟩ := h
    simp only at e1 e2 f5
    subst e1 e2
    refine (sw20_ok hN hi hF ha hp hb f5 wk).mono fun e s h => ?_
    obtain ⟨ts6, m6, d6⟩ := s
    obtain ⟨rfl, e1, e2, f6⟩ := h
    simp only at e1 e2 f6
    subst e1 e2
    refine (sw14_ok hN hi f6).mono fun e s h => ?_
    obtain ⟨ts7, m7, d7⟩ := s
    obtain ⟨rfl, e1, e2, f7⟩ := h
    simp only at e1 e2 f7
    subst e1 e2
    refine ⟨x' - 1, by omega, i + 1, _, _, _, _, by omega, ?_, ?_, ?_, ?_, f7, rfl, rfl⟩
    · intro j hj hh
      by_cases e : j = i
      · subst e; rcases hh with hh | hh <;> simp [hh]
      · simp [kx j (by omega) hh]
    · intro j hj hh
      by_cases e : j = i
      · subst e; rcases hh with hh | hh <;> simp [hh]
      · simp [ky j (by omega) hh]
    · intro j hj hh
      by_cases e : j = i
      · subst e; rcases hh with hh | hh <;> simp [hh]
      · simp [kz j (by omega) hh]
    · intro j hj hh
      by_cases e : j = i
      · subst e; simp [hh]
      · simp [kf j (by omega) hh]
  · have : i = N := by omega
    subst this
    obtain ⟨jx, hjx, ex⟩ := mxI_is (F := F) (c := 0) hN0
    obtain ⟨jy, hjy, ey⟩ := mxI_is (F := F) (c := 1) hN0
    obtain ⟨jz, hjz, ez⟩ := mxI_is (F := F) (c := 2) hN0
    obtain ⟨jf, hjf, ef⟩ := farI_is (F := F) hN0 hF
    rw [hX] at ex
    rw [hY] at ey
    rw [hZ] at ez
    rw [hK] at ef
    have r1 := kx jx hjx ex
    have r2 := ky jy hjy ey
    have r3 := kz jz hjz ez
    have r4 := kf jf hjf ef
    subst r1 r2 r3 r4
    refine (swC0_end hfit).mono fun e s h => ?_
    obtain ⟨ts1, m1, d1⟩ := s
    obtain ⟨rfl, e1, e2, f1⟩ := h
    simp only at e1 e2 f1
    subst e1 e2
    exact hQ _ f1
noncomputable def lawWithin09S : Sum := fun args env _ => match args with
  | [.agg [.int .i64 kd, .int .i64 r, .int .i64 x, .int .i64 y, .int .i64 z, l]] => match listE env l with
    | some (n, f) => open Classical in if LwP kd r x y z n f then .val (.bool true) [] [] else .fail
    | none => .fail
  | _ => .fail
set_option maxHeartbeats 400000000 in
set_option maxRecDepth 100000 in
theorem lawWithin09_ok : SumOk Try.prog 3 lawWithin09S := by
  refine sum_read (L := fun _ => none) (n := 150) (S := stOf swST) drawS Try.T_ok (stOf_ok (by simp [swST, coreB_ok, halfB_ok, reachB_ok, bel_ok, vLenUp_ok, awake09_ok])) Try.func3 rfl (by kernel_rfl) (by kernel_rfl) ?_
  intro args env nxt h
  unfold lawWithin09S at h ⊢
  split at h
  · rename_i kd r x y z l
    split at h
    · rename_i n f hl
      split at h
      · rename_i hc
        simp only [if_pos hc]
        obtain hlw := id hc
        rcases laid_shape (fun l => [.agg [.int .i64 kd, .int .i64 r, .int .i64 x, .int .i64 y, .int .i64 z, l]]) hl (fun _ _ => rfl) (fun l => by simp) with ⟨rfl, rfl, rfl, hlaid⟩ | ⟨p, o1, c, items, ty, rfl, hlaid, hnc, hr', -, hE, hE2, hload⟩
        · refine ⟨_, _, _, .bool true, hlaid, rfl, rfl, rfl, ?_⟩
          have hct := eq_true (hlw.sh (by decide))
          obtain ⟨v, hv⟩ : ∃ v, ckI kd r x y z 0 (fun _ => 0) = v := ⟨_, rfl⟩
          by_cases ok : v = 0
          · subst ok
            obtain ⟨r0, r1, hs, M1, M2, hsm⟩ := ck_ok hv
            have x0 := mxI_bd (F := coF kd x y z (fun _ => 0)) (c := 0) (by decide) hsm
            have y0 := mxI_bd (F := coF kd x y z (fun _ => 0)) (c := 1) (by decide) hsm
            have z0 := mxI_bd (F := coF kd x y z (fun _ => 0)) (c := 2) (by decide) hsm
            have k0 := farI_bd (F := coF kd x y z (fun _ => 0)) hsm
            obtain ⟨X, hX⟩ : ∃ X, mxI (coF kd x y z (fun _ => 0)) 0 (coN kd 0) = X := ⟨_, rfl⟩
            obtain ⟨Y, hY⟩ : ∃ X, mxI (coF kd x y z (fun _ => 0)) 1 (coN kd 0) = X := ⟨_, rfl⟩
            obtain ⟨Z, hZ⟩ : ∃ X, mxI (coF kd x y z (fun _ => 0)) 2 (coN kd 0) = X := ⟨_, rfl⟩
            obtain ⟨K, hK⟩ : ∃ X, farI (coF kd x y z (fun _ => 0)) (coN kd 0) = X := ⟨_, rfl⟩
            rw [hX] at x0
            rw [hY] at y0
            rw [hZ] at z0
            rw [hK] at k0
            have c1 : clampI (K + r) = K + r := clampI_self (by unfold InI; omega)
            have wk : IntKind.i64.wrap (K + r - r) = K := by rw [wrap_i64_in (by omega) (by omega)]; omega
            have wx : IntKind.i64.wrap X = X := wrap_i64_in (by omega) (by omega)
            have wy : IntKind.i64.wrap Y = Y := wrap_i64_in (by omega) (by omega)
            have wz : IntKind.i64.wrap Z = Z := wrap_i64_in (by omega) (by omega)
            simp (maxSteps := 10000000) [-loopA_succ, Try.f3, swST, coreBS, halfBS, reachBS, hct, hv, hX, hY, hZ, hK, c1, wx, wy, wz]
            intro k
            simp only [good_bind, good_unblock]
            refine sw_loop (F := coF kd x y z (fun _ => 0)) (a := 0) (b := 2) (p := 1) (N := coN kd 0) (k := k) (K := K) (X := X) (Y := Y) (Z := Z) (r := r) (kd := kd) (x := x) (y := y) (z := z) (l := .nilslice) (by omega) (by omega) hsm rfl rfl rfl hX hY hZ hK wk (fun ts hfit => ?_) ?_
            · obtain ⟨g, rfl⟩ := fits_of hfit 0
              simp [swP]
            · simp [swP]
          · simp (maxSteps := 10000000) [Try.f3, swST, coreBS, halfBS, reachBS, hct, hv, ok]
        · refine ⟨_, _, _, .bool true, hlaid, rfl, rfl, rfl, ?_⟩
          by_cases hn : (100 : Int) < n
          · simp (maxSteps := 10000000) [Try.f3, swST, hn]
          · have hct := eq_true (hlw.sh hn)
            obtain ⟨v, hv⟩ : ∃ v, ckI kd r x y z n f = v := ⟨_, rfl⟩
            by_cases ok : v = 0
            · subst ok
              obtain ⟨r0, r1, hs, M1, M2, hsm⟩ := ck_ok hv
              have x0 := mxI_bd (F := coF kd x y z f) (c := 0) (by decide) hsm
              have y0 := mxI_bd (F := coF kd x y z f) (c := 1) (by decide) hsm
              have z0 := mxI_bd (F := coF kd x y z f) (c := 2) (by decide) hsm
              have k0 := farI_bd (F := coF kd x y z f) hsm
              obtain ⟨X, hX⟩ : ∃ X, mxI (coF kd x y z f) 0 (coN kd n) = X := ⟨_, rfl⟩
              obtain ⟨Y, hY⟩ : ∃ X, mxI (coF kd x y z f) 1 (coN kd n) = X := ⟨_, rfl⟩
              obtain ⟨Z, hZ⟩ : ∃ X, mxI (coF kd x y z f) 2 (coN kd n) = X := ⟨_, rfl⟩
              obtain ⟨K, hK⟩ : ∃ X, farI (coF kd x y z f) (coN kd n) = X := ⟨_, rfl⟩
              rw [hX] at x0
              rw [hY] at y0
              rw [hZ] at z0
              rw [hK] at k0
              have c1 : clampI (K + r) = K + r := clampI_self (by unfold InI; omega)
              have wk : IntKind.i64.wrap (K + r - r) = K := by rw [wrap_i64_in (by omega) (by omega)]; omega
              have wx : IntKind.i64.wrap X = X := wrap_i64_in (by omega) (by omega)
              have wy : IntKind.i64.wrap Y = Y := wrap_i64_in (by omega) (by omega)
              have wz : IntKind.i64.wrap Z = Z := wrap_i64_in (by omega) (by omega)
              simp (maxSteps := 10000000) [-loopA_succ, Try.f3, swST, coreBS, halfBS, reachBS, hE, hct, hv, hX, hY, hZ, hK, c1, wx, wy, wz, hn]
              intro k
              simp only [good_bind, good_unblock]
              refine sw_loop (F := coF kd x y z f) (a := 1) (b := 3) (p := 2) (N := coN kd n) (k := k) (K := K) (X := X) (Y := Y) (Z := Z) (r := r) (kd := kd) (x := x) (y := y) (z := z) (l := .slice 0 o1 n c) (by omega) (by omega) hsm rfl rfl rfl hX hY hZ hK wk (fun ts hfit => ?_) ?_
              · obtain ⟨g, rfl⟩ := fits_of hfit 0
                simp [swP]
              · simp [swP]
            · simp (maxSteps := 10000000) [Try.f3, swST, coreBS, halfBS, reachBS, hE, hct, hv, ok, hn]
      · simp [*] at h
    · simp [*] at h
  · simp at h
end Go.X
