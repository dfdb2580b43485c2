/- The points of a shape in a pose are the document's. -/
import Derived.Test.YtgfpllfimpgooaaGreatJUN
import Derived.Test.YtgfpllfimpgooaaGreatJT8
namespace Go.X
open Go.Proofs
attribute [local irreducible] Good

@[simp] theorem EqL_self {n : Nat} {f : Nat → Int} : EqL n n f f ↔ True := ⟨fun _ => trivial, fun _ => ⟨rfl, fun _ _ => rfl⟩⟩
/-- a list that has just been made -/
theorem listE_new {env : Mem} {p n k : Nat} : listE env (.slice p 0 n (n + k)) = match rowB 3 .i64 (env p) 0 n with
    | some (n', o, F) => if n' = n ∧ n ≤ n + k then some (n, fun j => F (o + j)) else none
    | none => none := rfl
theorem row_fits {n k : Nat} : n * 3 ≤ (n + k) * 3 := by omega
noncomputable def lawPts11S : Sum := fun args env _ => match args with
  | [.agg [.int .i64 p1, .int .i64 p2, .int .i64 p3, .int .i64 q0, .int .i64 q1, .int .i64 q2, .int .i64 q3], .agg [.int .i64 kd, .int .i64 r, .int .i64 x, .int .i64 y, .int .i64 z, l]] => match listE env l with
    | some (n, f) => open Classical in if LwP kd r x y z n f ∧ InI p1 ∧ InI p2 ∧ InI p3 ∧ InI q0 ∧ InI q1 ∧ InI q2 ∧ InI q3 then .val (.bool true) [] [] else .fail
    | none => .fail
  | _ => .fail
set_option maxHeartbeats 400000000 in
set_option maxRecDepth 100000 in
theorem lawPts11_ok : SumOk Tryz.prog 13 lawPts11S := by
  refine sum_read (L := fun _ => none) (n := 1) (S := stOf [(21, ptsBS), (55, ptsBS), (56, sameLS), (15, pureS awake11S)]) drawS Tryz.T_ok (stOf_ok (by simp [pts_ok, r11pts_ok, r11sp_ok, awake11_ok])) Tryz.func13 rfl (by kernel_rfl) (by kernel_rfl) ?_
  intro args env nxt h
  unfold lawPts11S at h ⊢
  split at h
  · rename_i p1 p2 p3 q0 q1 q2 q3 kd r x y z l
    split at h
    · rename_i n f hl
      split at h
      · rename_i hc
        simp only [if_pos hc]
        obtain ⟨hlw, i1, i2, i3, j0, j1, j2, j3⟩ := id hc
        rcases laid_shape (fun l => [.agg [.int .i64 p1, .int .i64 p2, .int .i64 p3, .int .i64 q0, .int .i64 q1, .int .i64 q2, .int .i64 q3], .agg [.int .i64 kd, .int .i64 r, .int .i64 x, .int .i64 y, .int .i64 z, l]]) hl (fun _ _ => rfl) (fun l => by simp) with ⟨rfl, rfl, rfl, hlaid⟩ | ⟨p, o1, c, items, ty, rfl, hlaid, hnc, hr', -, hE, hE2, hload⟩
        · refine ⟨_, _, _, .bool true, hlaid, rfl, rfl, rfl, ?_⟩
          have hct := eq_true (hlw.sh (by decide))
          by_cases pt : Place p1 p2 p3 ∧ TurnP q0 q1 q2 q3
          · have ptt := eq_true pt
            by_cases ok : ckI kd r x y z 0 (fun _ => 0) = 0
            · obtain ⟨r0, r1, hs, M1, M2, hsm⟩ := ck_ok ok
              have M3 : coN kd 0 ≤ 256 := by omega
              simp (maxSteps := 10000000) [Tryz.f13, ptsBS, hct, ok, ptt, i1, i2, i3, j0, j1, j2, j3, sameLS, listE_new, row_fits, M3]
            · simp (maxSteps := 10000000) [Tryz.f13, ptsBS, hct, ok, ptt, i1, i2, i3, j0, j1, j2, j3, sameLS]
          · have ptt := eq_false pt
            simp (maxSteps := 10000000) [Tryz.f13, ptsBS, hct, ptt, i1, i2, i3, j0, j1, j2, j3, sameLS]
        · refine ⟨_, _, _, .bool true, hlaid, rfl, rfl, rfl, ?_⟩
          by_cases hn : (100 : Int) < n
          · simp (maxSteps := 10000000) [Tryz.f13, hn]
          · have hct := eq_true (hlw.sh hn)
            by_cases pt : Place p1 p2 p3 ∧ TurnP q0 q1 q2 q3
            · have ptt := eq_true pt
              by_cases ok : ckI kd r x y z n f = 0
              · obtain ⟨r0, r1, hs, M1, M2, hsm⟩ := ck_ok ok
                have M3 : coN kd n ≤ 256 := by omega
                simp (maxSteps := 10000000) [Tryz.f13, ptsBS, hE, hct, ok, ptt, i1, i2, i3, j0, j1, j2, j3, sameLS, listE_new, row_fits, M3, hn]
              · simp (maxSteps := 10000000) [Tryz.f13, ptsBS, hE, hct, ok, ptt, i1, i2, i3, j0, j1, j2, j3, sameLS, hn]
            · have ptt := eq_false pt
              simp (maxSteps := 10000000) [Tryz.f13, ptsBS, hE, hct, ptt, i1, i2, i3, j0, j1, j2, j3, sameLS, hn]
      · simp [*] at h
    · simp [*] at h
  · simp at h
end Go.X
