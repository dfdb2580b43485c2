/- The statement MassOnce: for whatever numbers the call returns true, and what came in reads as it did. -/
import Derived.Test.YtfhooccdhmkaoaaJS6
import Derived.Test.YtfhooccdhmkaoaaGR
import Derived.Test.YtfhooccdhmkaoaaRows
import Derived.Test.YtfhooccdhmkaoaaChecked
namespace Go.Proofs.Ytfhooccdhmkaoaa
open Go.ChangeShapes Go.WideShapes Go.X

theorem own : ownKnob Try.prog.godebug = none := by kernel_rfl
theorem u64_of {f : Nat → Int} (h : ∀ i, i < 8 → IntKind.u64.has (f i)) : R8 f := by
  intro i hi
  have := h i hi
  simp [IntKind.has, IntKind.min, IntKind.max, IntKind.signed, IntKind.bits] at this
  omega
theorem i64_of {n : Int} (h : IntKind.i64.has n) : -9223372036854775808 ≤ n ∧ n < 9223372036854775808 := by
  simp [IntKind.has, IntKind.min, IntKind.max, IntKind.signed, IntKind.bits] at h
  omega

set_option maxRecDepth 100000 in
theorem massOnce_lifted (os : Os) (started : os.Started) (H : Type) (enc : TypeId × Value → H) :
    ReturnsInHanded {} Try.checked os 13 .any (Rows.massOnceSpec.pre6 enc Try.prog Try.f13 Rows.massOnceRow.domain false) (Rows.massOnceSpec.post enc Try.prog Try.f13 false true false false) := by
  refine returnsInHanded_of_change (C := Try.checked) own started (by kernel_rfl) Try.func13
    (ChangeSpec.witness6 (enc := enc) (C := Try.checked) false ⟨#[], #[.agg #[.int .i64 0, .int .i64 0, .int .i64 0, .int .i64 0]], []⟩ 8 (by kernel_rfl) (by kernel_rfl) (by kernel_rfl) (by kernel_rfl)) ?_
  intro W base args ds gs before hval0 hW _ _
  have hval : ∀ (j : Nat) t v, Try.f13.params[j]? = some t → args[j]? = some v → Value.okWide Try.prog W .any base t v := hval0
  obtain ⟨p, q, hA0, -⟩ := id hW
  have hA : DataW.TrodAll enc Try.prog W 0 (fun _ => true) true [68] args.toList ds p := hA0
  obtain ⟨args⟩ := args
  simp only at hA
  obtain ⟨v0, r0, d0, e0, p0, q0, rfl, rfl, -, -, hA0⟩ := trodAll_cons hA
  obtain ⟨rfl, rfl, -⟩ := trodAll_nil hA0
  obtain ⟨f0, rfl, w0⟩ := open_cells (t := 68) (u := 22) (n := 4) (k := .i64) (by kernel_rfl) (by kernel_rfl) (by kernel_rfl) (by decide) Try.underlying22 (hval 0 68 v0 rfl rfl)
  have z0_0 : InI (f0 0) := i64_of (w0 0 (by decide))
  have z0_1 : InI (f0 1) := i64_of (w0 1 (by decide))
  have z0_2 : InI (f0 2) := i64_of (w0 2 (by decide))
  have z0_3 : InI (f0 3) := i64_of (w0 3 (by decide))
  have hc := law_calls Try.func13 (by kernel_rfl) (by kernel_rfl) lawOnce10_ok (avs := [.agg [.int .i64 (f0 0), .int .i64 (f0 1), .int .i64 (f0 2), .int .i64 (f0 3)]]) (v := .bool true) (by simp only [lawOnce10S]; exact if_pos ⟨z0_0, z0_1, z0_2, z0_3⟩) rfl rfl W
  refine hc.mono fun e W' hq => ⟨.bool true, hq.1, post_flat (tb := 4) rfl (by kernel_rfl) rfl Try.underlying4 hW rfl hq.2⟩

theorem massOnce_closed : joinedFacts Try.prog 13 Try.f13 Rows.massOnceSpec Rows.massOnceRow = true := by
  unfold joinedFacts
  rw [Try.fact25, Try.fact26, Try.fact27]
  kernel_rfl

theorem massOnce_holds : Rows.MassOnceSaid :=
  OpenClaim.holds_of_wide 13 Try.f13 rfl rfl rfl rfl rfl rfl rfl ⟨rfl, rfl, rfl, rfl, rfl⟩ rfl rfl rfl rfl rfl (by kernel_rfl) Try.func13 massOnce_closed
    (of_decide_eq_true (by kernel_rfl)) (by unfold Func.isWrapper; first | (rw [if_pos (by decide +kernel)]; kernel_rfl) | (rw [if_neg (by decide +kernel)]; exact ⟨rfl, rfl⟩))
    (fun os started H enc _ => massOnce_lifted os started H enc)

end Go.Proofs.Ytfhooccdhmkaoaa
