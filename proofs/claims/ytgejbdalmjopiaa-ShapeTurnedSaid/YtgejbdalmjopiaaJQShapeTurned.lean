/- The statement ShapeTurned: for whatever numbers the call returns true, and what came in reads as it did. -/
import Derived.Test.YtgejbdalmjopiaaJS8T
import Derived.Test.YtgejbdalmjopiaaGR
import Derived.Test.YtgejbdalmjopiaaRows
import Derived.Test.YtgejbdalmjopiaaChecked
namespace Go.Proofs.Ytgejbdalmjopiaa
open Go.ChangeShapes Go.WideShapes Go.X

theorem own : ownKnob Try.prog.godebug = none := by kernel_rfl
theorem u64_of {f : Nat → Int} (h : ∀ i, i < 8 → IntKind.u64.has (f i)) : R8 f := by
  intro i hi
  have := h i hi
  simp [IntKind.has, IntKind.min, IntKind.max, IntKind.signed, IntKind.bits] at this
  omega
theorem i64_of {n : Int} (h : IntKind.i64.has n) : -9223372036854775808 ≤ n ∧ n < 9223372036854775808 := by
  simp [IntKind.has, IntKind.min, IntKind.max, IntKind.signed, IntKind.bits] at h
  omega

set_option maxRecDepth 100000 in
theorem shapeTurned_lifted (os : Os) (started : os.Started) (H : Type) (enc : TypeId × Value → H) :
    ReturnsInHanded {} Try.checked os 4 .any (Rows.shapeTurnedSpec.pre6 enc Try.prog Try.f4 Rows.shapeTurnedRow.domain false) (Rows.shapeTurnedSpec.post enc Try.prog Try.f4 false true false false) := by
  refine returnsInHanded_of_change (C := Try.checked) own started (by kernel_rfl) Try.func4
    (ChangeSpec.witness6 (enc := enc) (C := Try.checked) false ⟨#[], #[.int .i64 0, .int .i64 0, .agg #[.int .i64 0, .int .i64 0, .int .i64 0]], []⟩ 8 (by kernel_rfl) (by kernel_rfl) (by kernel_rfl) (by kernel_rfl)) ?_
  intro W base args ds gs before hval0 hW _ _
  have hval : ∀ (j : Nat) t v, Try.f4.params[j]? = some t → args[j]? = some v → Value.okWide Try.prog W .any base t v := hval0
  obtain ⟨p, q, hA0, -⟩ := id hW
  have hA : DataW.TrodAll enc Try.prog W 0 (fun _ => true) true [3, 22, 24] args.toList ds p := hA0
  obtain ⟨args⟩ := args
  simp only at hA
  obtain ⟨v0, r0, d0, e0, p0, q0, rfl, rfl, -, -, hA0⟩ := trodAll_cons hA
  obtain ⟨v1, r1, d1, e1, p1, q1, rfl, rfl, -, -, hA1⟩ := trodAll_cons hA0
  obtain ⟨v2, r2, d2, e2, p2, q2, rfl, rfl, -, -, hA2⟩ := trodAll_cons hA1
  obtain ⟨rfl, rfl, -⟩ := trodAll_nil hA2
  obtain ⟨f0, rfl, w0⟩ := open_num (t := 3) (k := .i64) Try.underlying3 (hval 0 3 v0 rfl rfl)
  have z0 := i64_of w0
  obtain ⟨f1, rfl, w1⟩ := open_num (t := 22) (k := .i64) Try.underlying22 (hval 1 22 v1 rfl rfl)
  have z1 := i64_of w1
  obtain ⟨f2, rfl, w2⟩ := open_cells (t := 24) (u := 22) (n := 3) (k := .i64) (by kernel_rfl) (by kernel_rfl) (by kernel_rfl) (by decide) Try.underlying22 (hval 2 24 v2 rfl rfl)
  have z2_0 : InI (f2 0) := i64_of (w2 0 (by decide))
  have z2_1 : InI (f2 1) := i64_of (w2 1 (by decide))
  have z2_2 : InI (f2 2) := i64_of (w2 2 (by decide))
  have hc := law_calls Try.func4 (by kernel_rfl) (by kernel_rfl) lawTurned09_ok (avs := [.int .i64 f0, .int .i64 f1, .agg [.int .i64 (f2 0), .int .i64 (f2 1), .int .i64 (f2 2)]]) (v := .bool true) (by simp only [lawTurned09S]; exact if_pos ⟨z0, z1, z2_0, z2_1, z2_2⟩) rfl rfl W
  refine hc.mono fun e W' hq => ⟨.bool true, hq.1, post_flat (tb := 4) rfl (by kernel_rfl) rfl Try.underlying4 hW rfl hq.2⟩

theorem shapeTurned_closed : joinedFacts Try.prog 4 Try.f4 Rows.shapeTurnedSpec Rows.shapeTurnedRow = true := by
  unfold joinedFacts
  rw [Try.fact25, Try.fact26, Try.fact27]
  kernel_rfl

theorem shapeTurned_holds : Rows.ShapeTurnedSaid :=
  OpenClaim.holds_of_wide 4 Try.f4 rfl rfl rfl rfl rfl rfl rfl ⟨rfl, rfl, rfl, rfl, rfl⟩ rfl rfl rfl rfl rfl (by kernel_rfl) Try.func4 shapeTurned_closed
    (of_decide_eq_true (by kernel_rfl)) (by unfold Func.isWrapper; first | (rw [if_pos (by decide +kernel)]; kernel_rfl) | (rw [if_neg (by decide +kernel)]; exact ⟨rfl, rfl⟩))
    (fun os started H enc _ => shapeTurned_lifted os started H enc)

end Go.Proofs.Ytgejbdalmjopiaa
