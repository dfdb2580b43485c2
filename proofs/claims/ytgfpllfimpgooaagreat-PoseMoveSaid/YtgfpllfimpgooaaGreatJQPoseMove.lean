/- The statement PoseMove: for whatever numbers the call returns true, and what came in reads as it did. -/
import Derived.Test.YtgfpllfimpgooaaGreatJT8
import Derived.Test.YtgfpllfimpgooaaGreatGR
import Derived.Test.YtgfpllfimpgooaaGreatRows
import Derived.Test.YtgfpllfimpgooaaGreatChecked
namespace Go.Proofs.YtgfpllfimpgooaaGreat
open Go.ChangeShapes Go.WideShapes Go.X

theorem own : ownKnob Tryz.prog.godebug = none := by kernel_rfl
theorem u64_of {f : Nat → Int} (h : ∀ i, i < 8 → IntKind.u64.has (f i)) : R8 f := by
  intro i hi
  have := h i hi
  simp [IntKind.has, IntKind.min, IntKind.max, IntKind.signed, IntKind.bits] at this
  omega
theorem i64_of {n : Int} (h : IntKind.i64.has n) : -9223372036854775808 ≤ n ∧ n < 9223372036854775808 := by
  simp [IntKind.has, IntKind.min, IntKind.max, IntKind.signed, IntKind.bits] at h
  omega

set_option maxRecDepth 100000 in
theorem poseMove_lifted (os : Os) (started : os.Started) (H : Type) (enc : TypeId × Value → H) :
    ReturnsInHanded {} Tryz.checked os 7 .any (Rows.poseMoveSpec.pre6 enc Tryz.prog Tryz.f7 Rows.poseMoveRow.domain false) (Rows.poseMoveSpec.post enc Tryz.prog Tryz.f7 false true false false) := by
  refine returnsInHanded_of_change (C := Tryz.checked) own started (by kernel_rfl) Tryz.func7
    (ChangeSpec.witness6 (enc := enc) (C := Tryz.checked) false ⟨#[], #[.agg #[.int .i64 0, .int .i64 0, .int .i64 0, .int .i64 0, .int .i64 0, .int .i64 0, .int .i64 0], .agg #[.int .i64 0, .int .i64 0, .int .i64 0], .agg #[.int .i64 0, .int .i64 0, .int .i64 0], .int .i64 0], []⟩ 8 (by kernel_rfl) (by kernel_rfl) (by kernel_rfl) (by kernel_rfl)) ?_
  intro W base args ds gs before hval0 hW _ _
  have hval : ∀ (j : Nat) t v, Tryz.f7.params[j]? = some t → args[j]? = some v → Value.okWide Tryz.prog W .any base t v := hval0
  obtain ⟨p, q, hA0, -⟩ := id hW
  have hA : DataW.TrodAll enc Tryz.prog W 0 (fun _ => true) true [33, 24, 24, 22] args.toList ds p := hA0
  obtain ⟨args⟩ := args
  simp only at hA
  obtain ⟨v0, r0, d0, e0, p0, q0, rfl, rfl, -, -, hA0⟩ := trodAll_cons hA
  obtain ⟨v1, r1, d1, e1, p1, q1, rfl, rfl, -, -, hA1⟩ := trodAll_cons hA0
  obtain ⟨v2, r2, d2, e2, p2, q2, rfl, rfl, -, -, hA2⟩ := trodAll_cons hA1
  obtain ⟨v3, r3, d3, e3, p3, q3, rfl, rfl, -, -, hA3⟩ := trodAll_cons hA2
  obtain ⟨rfl, rfl, -⟩ := trodAll_nil hA3
  obtain ⟨f0, rfl, w0⟩ := open_cells (t := 33) (u := 22) (n := 7) (k := .i64) (by kernel_rfl) (by kernel_rfl) (by kernel_rfl) (by decide) Tryz.underlying22 (hval 0 33 v0 rfl rfl)
  have z0_0 : InI (f0 0) := i64_of (w0 0 (by decide))
  have z0_1 : InI (f0 1) := i64_of (w0 1 (by decide))
  have z0_2 : InI (f0 2) := i64_of (w0 2 (by decide))
  have z0_3 : InI (f0 3) := i64_of (w0 3 (by decide))
  have z0_4 : InI (f0 4) := i64_of (w0 4 (by decide))
  have z0_5 : InI (f0 5) := i64_of (w0 5 (by decide))
  have z0_6 : InI (f0 6) := i64_of (w0 6 (by decide))
  obtain ⟨f1, rfl, w1⟩ := open_cells (t := 24) (u := 22) (n := 3) (k := .i64) (by kernel_rfl) (by kernel_rfl) (by kernel_rfl) (by decide) Tryz.underlying22 (hval 1 24 v1 rfl rfl)
  have z1_0 : InI (f1 0) := i64_of (w1 0 (by decide))
  have z1_1 : InI (f1 1) := i64_of (w1 1 (by decide))
  have z1_2 : InI (f1 2) := i64_of (w1 2 (by decide))
  obtain ⟨f2, rfl, w2⟩ := open_cells (t := 24) (u := 22) (n := 3) (k := .i64) (by kernel_rfl) (by kernel_rfl) (by kernel_rfl) (by decide) Tryz.underlying22 (hval 2 24 v2 rfl rfl)
  have z2_0 : InI (f2 0) := i64_of (w2 0 (by decide))
  have z2_1 : InI (f2 1) := i64_of (w2 1 (by decide))
  have z2_2 : InI (f2 2) := i64_of (w2 2 (by decide))
  obtain ⟨f3, rfl, w3⟩ := open_num (t := 22) (k := .i64) Tryz.underlying22 (hval 3 22 v3 rfl rfl)
  have z3 := i64_of w3
  have hc := law_calls Tryz.func7 (by kernel_rfl) (by kernel_rfl) lawMove11_ok (avs := [.agg [.int .i64 (f0 0), .int .i64 (f0 1), .int .i64 (f0 2), .int .i64 (f0 3), .int .i64 (f0 4), .int .i64 (f0 5), .int .i64 (f0 6)], .agg [.int .i64 (f1 0), .int .i64 (f1 1), .int .i64 (f1 2)], .agg [.int .i64 (f2 0), .int .i64 (f2 1), .int .i64 (f2 2)], .int .i64 f3]) (v := .bool true) (by simp only [lawMove11S]; exact if_pos ⟨z0_0, z0_1, z0_2, z0_3, z0_4, z0_5, z0_6, z1_0, z1_1, z1_2, z2_0, z2_1, z2_2, z3⟩) rfl rfl W
  refine hc.mono fun e W' hq => ⟨.bool true, hq.1, post_flat (tb := 4) rfl (by kernel_rfl) rfl Tryz.underlying4 hW rfl hq.2⟩

theorem poseMove_closed : joinedFacts Tryz.prog 7 Tryz.f7 Rows.poseMoveSpec Rows.poseMoveRow = true := by
  unfold joinedFacts
  rw [Tryz.fact25, Tryz.fact26, Tryz.fact27]
  kernel_rfl

theorem poseMove_holds : Rows.PoseMoveSaid :=
  OpenClaim.holds_of_wide 7 Tryz.f7 rfl rfl rfl rfl rfl rfl rfl ⟨rfl, rfl, rfl, rfl, rfl⟩ rfl rfl rfl rfl rfl (by kernel_rfl) Tryz.func7 poseMove_closed
    (of_decide_eq_true (by kernel_rfl)) (by unfold Func.isWrapper; first | (rw [if_pos (by decide +kernel)]; kernel_rfl) | (rw [if_neg (by decide +kernel)]; exact ⟨rfl, rfl⟩))
    (fun os started H enc _ => poseMove_lifted os started H enc)

end Go.Proofs.YtgfpllfimpgooaaGreat
