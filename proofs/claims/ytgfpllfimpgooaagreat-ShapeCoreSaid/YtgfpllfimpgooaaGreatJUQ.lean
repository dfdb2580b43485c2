/- Any shape is accepted or refused, its core is the document's, and the shape stays. -/
import Derived.Test.YtgfpllfimpgooaaGreatJUP
import Derived.Test.YtgfpllfimpgooaaGreatGL
namespace Go.X
open Go.Proofs
attribute [local irreducible] Good

theorem EqL_same {n : Nat} {f : Nat → Int} : EqL n n f f ↔ True := ⟨fun _ => trivial, fun _ => ⟨rfl, fun _ _ => rfl⟩⟩
/-- a list that has just been made -/
theorem listE_made {env : Mem} {p n k : Nat} : listE env (.slice p 0 n (n + k)) = match rowB 3 .i64 (env p) 0 n with
    | some (n', o, F) => if n' = n ∧ n ≤ n + k then some (n, fun j => F (o + j)) else none
    | none => none := rfl
theorem listE_empty {env : Mem} {p : Nat} : listE env (.slice p 0 0 0) = match rowB 3 .i64 (env p) 0 0 with
    | some (n', o, F) => if n' = 0 ∧ 0 ≤ 0 then some (0, fun j => F (o + j)) else none
    | none => none := rfl
theorem row_room {n k : Nat} : n * 3 ≤ (n + k) * 3 := by omega
theorem ShP_congr {kd r x y z : Int} {n : Nat} {f g : Nat → Int} (h : ∀ j, j < n * 3 → f j = g j) (s : ShP kd r x y z n f) : ShP kd r x y z n g := by
  obtain ⟨a, b, c, d, e, k, l⟩ := s
  exact ⟨a, b, c, d, e, k, fun j hj => by rw [← h j hj]; exact l j hj⟩
theorem co_congr {kd x y z : Int} {n : Nat} {f g : Nat → Int} (h : ∀ j, j < n * 3 → f j = g j) : cutL (coN kd n * 3) (coF kd x y z f) = cutL (coN kd n * 3) (coF kd x y z g) := by
  funext j
  unfold cutL coN coF
  by_cases k : kd = 4
  · simp only [if_pos k]
    by_cases hj : j < n * 3
    · rw [if_pos hj, if_pos hj, h j hj]
    · rw [if_neg hj, if_neg hj]
  · simp only [if_neg k]
theorem cut_at {n : Nat} {f : Nat → Int} {j : Nat} (h : j < n * 3) : cutL (n * 3) f j = f j := if_pos h
theorem ShEq_cut {kd r x y z : Int} {n : Nat} {f g : Nat → Int} (h : ∀ j, j < n * 3 → f j = g j) : ShEq kd r x y z kd r x y z n n f g = True := eq_true ⟨rfl, rfl, ⟨rfl, rfl, rfl⟩, rfl, h⟩
theorem set_same {m : List Blk} {p : Nat} {B : Blk} (h : m[p]? = some B) : m.set p B = m := by
  obtain ⟨h1, h2⟩ := List.getElem?_eq_some_iff.1 h
  rw [← h2]; simp
theorem set_mod {m mi : List Blk} {p : Nat} {B : Blk} {g : Blk → Blk} (h : m = mi.set p B) : m.modify p g = mi.set p (g B) := by
  subst h
  refine List.ext_getElem? fun j => ?_
  rw [List.getElem?_modify, List.getElem?_set, List.getElem?_set]
  by_cases e : p = j <;> simp [e]
/-- a block of a list whose numbers are whatever they are -/
abbrev GB (n k : Nat) (G : Nat → Int) : Blk := ⟨[.arr .i64 ((n + k) * 3) G], 24⟩
noncomputable def sc9ST : List (FuncId × Sum) := [(22, coreBS), (32, coreBS), (33, sameLS), (34, checkBS), (35, checkBS), (36, shSameS), (31, pureS awake09S)]
noncomputable def sc9Loop : Code := match Tryz.f5.body with | some (.seq _ (.seq _ (.seq _ (.seq _ (.seq _ (.seq _ (.seq _ (.seq (.seq _ (.block _ (.loop c))) _)))))))) => c | _ => .skip
noncomputable def sc9P (a b p N k : Nat) (i : Option AV) : List (Option AV) := [none, some (.ptr a 0), none, some (.ptr b 0), some (.slice p 0 N (N + k)), none, none, none, i, none, none, none, none, none, none, none, none, none, none, none, none, none, none, none, none, none, none, none, none, none, none, none, none, none, none, none, none, none, none, none, none, none, none, none, none, none, none, none, none, none, none, none, none, none, none, none, none, none, none, none, none, none]
set_option maxHeartbeats 40000000 in
theorem sc9_loop {a b p N k : Nat} {F : Nat → Int} {mi : List Blk} (hN : N ≤ 100) {Q : Ex → St → Prop}
    (hQ : ∀ (ts : List AV) (G : Nat → Int), Fits (sc9P a b p N k none) ts → Q (.exit 0) ⟨ts, mi.set p (GB N k G), []⟩)
    {ts : List AV} (hp : mi[p]? = some (VB N k F)) (h0 : Fits (sc9P a b p N k (some (.int .i64 0))) ts) :
    Good (loopA (exec Tryz.T (stOf sc9ST) (fun _ => none) 150 sc9Loop) 150 ⟨ts, mi, []⟩) Q := by
  refine loop_rule (fun x s => ∃ (i : Nat) (G : Nat → Int), i + x = N ∧ Fits (sc9P a b p N k (some (.int .i64 i))) s.ts ∧ s.m = mi.set p (GB N k G) ∧ s.df = []) ?_ 150 N _ (by omega)
    ⟨0, cutL (N * 3) F, by omega, h0, (set_same hp).symm, rfl⟩
  rintro x ⟨ts, m, df⟩ ⟨i, G, hix, hfit, hm, hd⟩
  simp only at hfit hm hd
  subst hd
  obtain ⟨g, rfl⟩ := fits_of hfit 0
  have hpl : p < mi.length := (List.getElem?_eq_some_iff.1 hp).1
  by_cases hi : i < N
  · have hi1 : (i : Int) < N := by omega
    have w1 : IntKind.i64.wrap ((i : Int) + 1) = i + 1 := wrap_i64_in (by omega) (by omega)
    have lp : p < m.length := by rw [hm]; simpa using hpl
    have Np : ∀ h : p < m.length, m[p]'h = GB N k G := fun h => by simp [hm]
    have Lp : m[p]? = some (GB N k G) := by rw [hm]; simp [hpl]
    have e3 : i * 3 + 3 ≤ (N + k) * 3 := by omega
    simp (maxSteps := 10000000) [sc9Loop, sc9P, sc9ST, Tryz.f5, hi1, w1, lp, Np, e3]
    refine ⟨x - 1, by omega, i + 1, by omega, by omega, updL G (i * 3) [77, 0, 0], ?_⟩
    exact set_mod hm
  · have : i = N := by omega
    subst this
    subst hm
    simp [sc9Loop, sc9P, Tryz.f5]
    exact hQ _ _ (by simp [sc9P])
noncomputable def lawCore09S : Sum := fun args env _ => match args with
  | [.agg [.int .i64 kd, .int .i64 r, .int .i64 x, .int .i64 y, .int .i64 z, l]] => match listE env l with
    | some (n, f) => open Classical in if LwP kd r x y z n f then .val (.bool true) [] [] else .fail
    | none => .fail
  | _ => .fail
set_option maxHeartbeats 400000000 in
set_option maxRecDepth 100000 in
theorem lawCore09_ok : SumOk Tryz.prog 5 lawCore09S := by
  refine sum_read (L := fun _ => none) (n := 150) (S := stOf sc9ST) drawS Tryz.T_ok (stOf_ok (by simp [sc9ST, coreB_ok, r9core_ok, r9sv_ok, checkB_ok, r9check_ok, r9same_ok, awake09_ok])) Tryz.func5 rfl (by kernel_rfl) (by kernel_rfl) ?_
  intro args env nxt h
  unfold lawCore09S at h ⊢
  split at h
  · rename_i kd r x y z l
    split at h
    · rename_i n f hl
      split at h
      · rename_i hc
        simp only [if_pos hc]
        obtain hlw := id hc
        rcases laid_shape (fun l => [.agg [.int .i64 kd, .int .i64 r, .int .i64 x, .int .i64 y, .int .i64 z, l]]) hl (fun _ _ => rfl) (fun l => by simp) with ⟨rfl, rfl, rfl, hlaid⟩ | ⟨p, o1, c, items, ty, rfl, hlaid, hnc, hr', hrowf, hE, hE2, hload⟩
        · refine ⟨_, _, _, .bool true, hlaid, rfl, rfl, rfl, ?_⟩
          have hct := eq_true (hlw.sh (by decide))
          have hse : ShEq kd r x y z kd r x y z 0 0 (fun _ => 0) (fun _ => 0) = True := ShEq_cut fun _ _ => rfl
          by_cases ok : ckI kd r x y z 0 (fun _ => 0) = 0
          · obtain ⟨r0, r1, hs, M1, M2, hsm⟩ := ck_ok ok
            have M3 : coN kd 0 ≤ 256 := by omega
            simp (maxSteps := 10000000) [-loopA_succ, Tryz.f5, appA, sc9ST, coreBS, checkBS, sameLS, hct, ok, listE_made, listE_empty, row_room, EqL_same, M3]
            intro k1 k2
            simp only [good_bind, good_unblock]
            refine sc9_loop (F := coF kd x y z (fun _ => 0)) (a := 0) (b := 1) (p := 3) (N := coN kd 0) (k := k1) (by omega) (fun ts G hfit => ?_) ?_ ?_
            · obtain ⟨g, rfl⟩ := fits_of hfit 0
              simp [sc9P, shSameS, listE_empty, hse]
            · rfl
            · simp [sc9P]
          · simp (maxSteps := 10000000) [Tryz.f5, appA, sc9ST, coreBS, checkBS, sameLS, shSameS, hct, ok, listE_empty, EqL_same, hse]
        · refine ⟨_, _, _, .bool true, hlaid, rfl, rfl, rfl, ?_⟩
          by_cases hn : (100 : Int) < n
          · simp (maxSteps := 10000000) [Tryz.f5, sc9ST, hn]
          · obtain ⟨o, F, hrow, hf⟩ := hrowf
            subst hf
            have sh := hlw.sh hn
            have hct := eq_true sh
            by_cases n0 : n = 0
            · subst n0
              have hct2 : ShP kd r x y z 0 (fun _ => 0) = True := eq_true (ShP_congr (by simp) sh)
              have e1 : ckI kd r x y z 0 (fun _ => 0) = ckI kd r x y z 0 (fun j => F (o + j)) := ck_congr (by simp)
              have e2 : cutL (coN kd 0 * 3) (coF kd x y z (fun _ => 0)) = cutL (coN kd 0 * 3) (coF kd x y z (fun j => F (o + j))) := co_congr (by simp)
              have hse : ShEq kd r x y z kd r x y z 0 0 (fun _ => 0) (fun j => F (o + j)) = True := ShEq_cut (by simp)
              by_cases ok : ckI kd r x y z 0 (fun j => F (o + j)) = 0
              · obtain ⟨r0, r1, hs, M1, M2, hsm⟩ := ck_ok ok
                have M3 : coN kd 0 ≤ 256 := by omega
                simp (maxSteps := 10000000) [-loopA_succ, Tryz.f5, appA, sc9ST, coreBS, checkBS, sameLS, hct, ok, listE_made, listE_empty, row_room, EqL_same, M3, hE, hE2, hrow, hct2, e1, e2]
                intro k1 k2
                simp only [good_bind, good_unblock]
                refine sc9_loop (F := coF kd x y z (fun _ => 0)) (a := 1) (b := 2) (p := 4) (N := coN kd 0) (k := k1) (by omega) (fun ts G hfit => ?_) ?_ ?_
                · obtain ⟨g, rfl⟩ := fits_of hfit 0
                  simp [sc9P, shSameS, listE_empty, hse, hE]
                · rfl
                · simp [sc9P]
              · simp (maxSteps := 10000000) [Tryz.f5, appA, sc9ST, coreBS, checkBS, sameLS, shSameS, hct, ok, listE_empty, EqL_same, hse, hE, hE2, hrow, hct2, e1]
            · have hpos : 0 < n := by omega
              have hn2 : n ≤ 1048576 := by omega
              have hn3 : n ≤ 256 := by omega
              have hct2 : ShP kd r x y z n (cutL (n * 3) (fun j => F (o + j))) = True := eq_true (ShP_congr (fun j hj => (cut_at hj).symm) sh)
              have e1 : ckI kd r x y z n (cutL (n * 3) (fun j => F (o + j))) = ckI kd r x y z n (fun j => F (o + j)) := ck_congr fun j hj => cut_at hj
              have e2 : cutL (coN kd n * 3) (coF kd x y z (cutL (n * 3) (fun j => F (o + j)))) = cutL (coN kd n * 3) (coF kd x y z (fun j => F (o + j))) := co_congr fun j hj => cut_at hj
              have hse : ShEq kd r x y z kd r x y z n n (cutL (n * 3) (fun j => F (o + j))) (fun j => F (o + j)) = True := ShEq_cut fun j hj => cut_at hj
              by_cases ok : ckI kd r x y z n (fun j => F (o + j)) = 0
              · obtain ⟨r0, r1, hs, M1, M2, hsm⟩ := ck_ok ok
                have M3 : coN kd n ≤ 256 := by omega
                simp (maxSteps := 10000000) [-loopA_succ, Tryz.f5, appA, sc9ST, coreBS, checkBS, sameLS, hct, ok, listE_made, row_room, EqL_same, M3, hE, hE2, hrow, hct2, e1, e2, cat_no, hn, hpos, hn2]
                intro k0 k1 k2
                simp only [good_bind, good_unblock]
                refine sc9_loop (F := coF kd x y z (cutL (n * 3) (fun j => F (o + j)))) (a := 1) (b := 2) (p := 5) (N := coN kd n) (k := k1) (by omega) (fun ts G hfit => ?_) ?_ ?_
                · obtain ⟨g, rfl⟩ := fits_of hfit 0
                  simp [sc9P, shSameS, listE_made, row_room, hse, hE, hn3]
                · rfl
                · simp [sc9P]
              · simp (maxSteps := 10000000) [Tryz.f5, appA, sc9ST, coreBS, checkBS, sameLS, shSameS, hct, ok, listE_made, row_room, EqL_same, hse, hE, hE2, hrow, hct2, e1, cat_no, hn, hpos, hn2, hn3]; try (intro k0; simp (maxSteps := 10000000) [Tryz.f5, appA, sc9ST, coreBS, checkBS, sameLS, shSameS, hct, ok, listE_made, listE_empty, row_room, EqL_same, hse, hE, hE2, hrow, hct2, e1, e2, cat_no, hn, hpos, hn2, hn3, n0])
      · simp [*] at h
    · simp [*] at h
  · simp at h
end Go.X
