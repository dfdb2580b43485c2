/- The statement MatTurned: for whatever numbers the call returns true, and what came in reads as it did. -/
import Derived.Test.YtfhooccdhmkaoaaJT0
import Derived.Test.YtfhooccdhmkaoaaGR
import Derived.Test.YtfhooccdhmkaoaaRows
import Derived.Test.YtfhooccdhmkaoaaChecked
namespace Go.Proofs.Ytfhooccdhmkaoaa
open Go.ChangeShapes Go.WideShapes Go.X

theorem own : ownKnob Try.prog.godebug = none := by kernel_rfl
theorem u64_of {f : Nat → Int} (h : ∀ i, i < 8 → IntKind.u64.has (f i)) : R8 f := by
  intro i hi
  have := h i hi
  simp [IntKind.has, IntKind.min, IntKind.max, IntKind.signed, IntKind.bits] at this
  omega
theorem i64_of {n : Int} (h : IntKind.i64.has n) : -9223372036854775808 ≤ n ∧ n < 9223372036854775808 := by
  simp [IntKind.has, IntKind.min, IntKind.max, IntKind.signed, IntKind.bits] at h
  omega

set_option maxRecDepth 100000 in
theorem matTurned_lifted (os : Os) (started : os.Started) (H : Type) (enc : TypeId × Value → H) :
    ReturnsInHanded {} Try.checked os 5 .any (Rows.matTurnedSpec.pre6 enc Try.prog Try.f5 Rows.matTurnedRow.domain false) (Rows.matTurnedSpec.post enc Try.prog Try.f5 false true false false) := by
  refine returnsInHanded_of_change (C := Try.checked) own started (by kernel_rfl) Try.func5
    (ChangeSpec.witness6 (enc := enc) (C := Try.checked) false ⟨#[], #[.agg #[.int .i64 0, .int .i64 0, .int .i64 0, .int .i64 0, .int .i64 0, .int .i64 0, .int .i64 0, .int .i64 0, .int .i64 0], .agg #[.int .i64 0, .int .i64 0, .int .i64 0, .int .i64 0, .int .i64 0, .int .i64 0, .int .i64 0, .int .i64 0, .int .i64 0], .agg #[.int .i64 0, .int .i64 0, .int .i64 0]], []⟩ 8 (by kernel_rfl) (by kernel_rfl) (by kernel_rfl) (by kernel_rfl)) ?_
  intro W base args ds gs before hval0 hW _ _
  have hval : ∀ (j : Nat) t v, Try.f5.params[j]? = some t → args[j]? = some v → Value.okWide Try.prog W .any base t v := hval0
  obtain ⟨p, q, hA0, -⟩ := id hW
  have hA : DataW.TrodAll enc Try.prog W 0 (fun _ => true) true [27, 27, 24] args.toList ds p := hA0
  obtain ⟨args⟩ := args
  simp only at hA
  obtain ⟨v0, r0, d0, e0, p0, q0, rfl, rfl, -, -, hA0⟩ := trodAll_cons hA
  obtain ⟨v1, r1, d1, e1, p1, q1, rfl, rfl, -, -, hA1⟩ := trodAll_cons hA0
  obtain ⟨v2, r2, d2, e2, p2, q2, rfl, rfl, -, -, hA2⟩ := trodAll_cons hA1
  obtain ⟨rfl, rfl, -⟩ := trodAll_nil hA2
  obtain ⟨f0, rfl, w0⟩ := open_cells (t := 27) (u := 22) (n := 9) (k := .i64) (by kernel_rfl) (by kernel_rfl) (by kernel_rfl) (by decide) Try.underlying22 (hval 0 27 v0 rfl rfl)
  have z0_0 : InI (f0 0) := i64_of (w0 0 (by decide))
  have z0_1 : InI (f0 1) := i64_of (w0 1 (by decide))
  have z0_2 : InI (f0 2) := i64_of (w0 2 (by decide))
  have z0_3 : InI (f0 3) := i64_of (w0 3 (by decide))
  have z0_4 : InI (f0 4) := i64_of (w0 4 (by decide))
  have z0_5 : InI (f0 5) := i64_of (w0 5 (by decide))
  have z0_6 : InI (f0 6) := i64_of (w0 6 (by decide))
  have z0_7 : InI (f0 7) := i64_of (w0 7 (by decide))
  have z0_8 : InI (f0 8) := i64_of (w0 8 (by decide))
  obtain ⟨f1, rfl, w1⟩ := open_cells (t := 27) (u := 22) (n := 9) (k := .i64) (by kernel_rfl) (by kernel_rfl) (by kernel_rfl) (by decide) Try.underlying22 (hval 1 27 v1 rfl rfl)
  have z1_0 : InI (f1 0) := i64_of (w1 0 (by decide))
  have z1_1 : InI (f1 1) := i64_of (w1 1 (by decide))
  have z1_2 : InI (f1 2) := i64_of (w1 2 (by decide))
  have z1_3 : InI (f1 3) := i64_of (w1 3 (by decide))
  have z1_4 : InI (f1 4) := i64_of (w1 4 (by decide))
  have z1_5 : InI (f1 5) := i64_of (w1 5 (by decide))
  have z1_6 : InI (f1 6) := i64_of (w1 6 (by decide))
  have z1_7 : InI (f1 7) := i64_of (w1 7 (by decide))
  have z1_8 : InI (f1 8) := i64_of (w1 8 (by decide))
  obtain ⟨f2, rfl, w2⟩ := open_cells (t := 24) (u := 22) (n := 3) (k := .i64) (by kernel_rfl) (by kernel_rfl) (by kernel_rfl) (by decide) Try.underlying22 (hval 2 24 v2 rfl rfl)
  have z2_0 : InI (f2 0) := i64_of (w2 0 (by decide))
  have z2_1 : InI (f2 1) := i64_of (w2 1 (by decide))
  have z2_2 : InI (f2 2) := i64_of (w2 2 (by decide))
  have hc := law_calls Try.func5 (by kernel_rfl) (by kernel_rfl) lawMatTurned_ok (avs := [.agg [.int .i64 (f0 0), .int .i64 (f0 1), .int .i64 (f0 2), .int .i64 (f0 3), .int .i64 (f0 4), .int .i64 (f0 5), .int .i64 (f0 6), .int .i64 (f0 7), .int .i64 (f0 8)], .agg [.int .i64 (f1 0), .int .i64 (f1 1), .int .i64 (f1 2), .int .i64 (f1 3), .int .i64 (f1 4), .int .i64 (f1 5), .int .i64 (f1 6), .int .i64 (f1 7), .int .i64 (f1 8)], .agg [.int .i64 (f2 0), .int .i64 (f2 1), .int .i64 (f2 2)]]) (v := .bool true) (by simp only [lawMatTurnedS]; exact if_pos ⟨z0_0, z0_1, z0_2, z0_3, z0_4, z0_5, z0_6, z0_7, z0_8, z1_0, z1_1, z1_2, z1_3, z1_4, z1_5, z1_6, z1_7, z1_8, z2_0, z2_1, z2_2⟩) rfl rfl W
  refine hc.mono fun e W' hq => ⟨.bool true, hq.1, post_flat (tb := 4) rfl (by kernel_rfl) rfl Try.underlying4 hW rfl hq.2⟩

theorem matTurned_closed : joinedFacts Try.prog 5 Try.f5 Rows.matTurnedSpec Rows.matTurnedRow = true := by
  unfold joinedFacts
  rw [Try.fact25, Try.fact26, Try.fact27]
  kernel_rfl

theorem matTurned_holds : Rows.MatTurnedSaid :=
  OpenClaim.holds_of_wide 5 Try.f5 rfl rfl rfl rfl rfl rfl rfl ⟨rfl, rfl, rfl, rfl, rfl⟩ rfl rfl rfl rfl rfl (by kernel_rfl) Try.func5 matTurned_closed
    (of_decide_eq_true (by kernel_rfl)) (by unfold Func.isWrapper; first | (rw [if_pos (by decide +kernel)]; kernel_rfl) | (rw [if_neg (by decide +kernel)]; exact ⟨rfl, rfl⟩))
    (fun os started H enc _ => matTurned_lifted os started H enc)

end Go.Proofs.Ytfhooccdhmkaoaa
