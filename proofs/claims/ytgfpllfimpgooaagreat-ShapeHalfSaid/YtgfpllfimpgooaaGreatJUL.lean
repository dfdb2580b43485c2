/- Laws of shapes: halves and the reach are the document's. -/
import Derived.Test.YtgfpllfimpgooaaGreatGL
namespace Go.X
open Go.Proofs
attribute [local irreducible] Good

/-- a shape that a law is handed -/
def LwP (kd r x y z : Int) (n : Nat) (f : Nat → Int) : Prop := InI kd ∧ InI r ∧ InI x ∧ InI y ∧ InI z ∧ ∀ j, j < n * 3 → InI (f j)
theorem LwP.sh {kd r x y z : Int} {n : Nat} {f : Nat → Int} (h : LwP kd r x y z n f) (hn : ¬ (100 : Int) < n) : ShP kd r x y z n f := ⟨h.1, h.2.1, h.2.2.1, h.2.2.2.1, h.2.2.2.2.1, by omega, h.2.2.2.2.2⟩
noncomputable def lawHalf09S : Sum := fun args env _ => match args with
  | [.agg [.int .i64 kd, .int .i64 r, .int .i64 x, .int .i64 y, .int .i64 z, l]] => match listE env l with
    | some (n, f) => open Classical in if LwP kd r x y z n f then .val (.bool true) [] [] else .fail
    | none => .fail
  | _ => .fail
set_option maxHeartbeats 400000000 in
set_option maxRecDepth 100000 in
theorem lawHalf09_ok : SumOk Tryz.prog 6 lawHalf09S := by
  refine sum_read (L := fun _ => none) (n := 1) (S := stOf [(37, halfBS), (39, reachBS), (38, halfBS), (40, reachBS), (31, pureS awake09S)]) drawS Tryz.T_ok (stOf_ok (by simp [halfB_ok, reachB_ok, r9half_ok, r9reach_ok, awake09_ok])) Tryz.func6 rfl (by kernel_rfl) (by kernel_rfl) ?_
  intro args env nxt h
  unfold lawHalf09S at h ⊢
  split at h
  · rename_i kd r x y z l
    split at h
    · rename_i n f hl
      split at h
      · rename_i hc
        simp only [if_pos hc]
        obtain hlw := id hc
        rcases laid_shape (fun l => [.agg [.int .i64 kd, .int .i64 r, .int .i64 x, .int .i64 y, .int .i64 z, l]]) hl (fun _ _ => rfl) (fun l => by simp) with ⟨rfl, rfl, rfl, hlaid⟩ | ⟨p, o1, c, items, ty, rfl, hlaid, hnc, hr', -, hE, hE2, hload⟩
        · refine ⟨_, _, _, .bool true, hlaid, rfl, rfl, rfl, ?_⟩
          have hct := eq_true (hc.sh (by decide))
          obtain ⟨v, hv⟩ : ∃ v, ckI kd r x y z 0 (fun _ => 0) = v := ⟨_, rfl⟩
          by_cases ok : v = 0
          · subst ok
            simp (maxSteps := 10000000) [Tryz.f6, halfBS, reachBS, hct, hv]
          · simp (maxSteps := 10000000) [Tryz.f6, halfBS, reachBS, hct, hv, ok]
        · refine ⟨_, _, _, .bool true, hlaid, rfl, rfl, rfl, ?_⟩
          by_cases hn : (100 : Int) < n
          · simp (maxSteps := 10000000) [Tryz.f6, hn]
          · have hct := eq_true (hc.sh hn)
            obtain ⟨v, hv⟩ : ∃ v, ckI kd r x y z n f = v := ⟨_, rfl⟩
            by_cases ok : v = 0
            · subst ok
              simp (maxSteps := 10000000) [Tryz.f6, halfBS, reachBS, hct, hE, hv, hn]
            · simp (maxSteps := 10000000) [Tryz.f6, halfBS, reachBS, hct, hE, hv, ok, hn]
      · simp [*] at h
    · simp [*] at h
  · simp at h
end Go.X
