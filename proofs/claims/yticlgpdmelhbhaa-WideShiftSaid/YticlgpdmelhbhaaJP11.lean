/- The statement WideShift: for whatever numbers the call returns true, and what came in reads as it did. -/
import Derived.Test.YticlgpdmelhbhaaJR11
import Derived.Test.YticlgpdmelhbhaaRows
import Derived.Test.YticlgpdmelhbhaaChecked
namespace Go.Proofs.Yticlgpdmelhbhaa
open Go.ChangeShapes Go.WideShapes Go.X

theorem own : ownKnob Try.prog.godebug = none := by kernel_rfl
theorem u64_of {f : Nat → Int} (h : ∀ i, i < 8 → IntKind.u64.has (f i)) : R8 f := by
  intro i hi
  have := h i hi
  simp [IntKind.has, IntKind.min, IntKind.max, IntKind.signed, IntKind.bits] at this
  omega
theorem i64_of {n : Int} (h : IntKind.i64.has n) : -9223372036854775808 ≤ n ∧ n < 9223372036854775808 := by
  simp [IntKind.has, IntKind.min, IntKind.max, IntKind.signed, IntKind.bits] at h
  omega

set_option maxRecDepth 100000 in
theorem wideShift_lifted (os : Os) (started : os.Started) (H : Type) (enc : TypeId × Value → H) :
    ReturnsInHanded {} Try.checked os 11 .any (Rows.wideShiftSpec.pre6 enc Try.prog Try.f11 Rows.wideShiftRow.domain false) (Rows.wideShiftSpec.post enc Try.prog Try.f11 false true false false) := by
  refine returnsInHanded_of_change (C := Try.checked) own started (by kernel_rfl) Try.func11
    (ChangeSpec.witness6 (enc := enc) (C := Try.checked) false ⟨#[], #[.agg #[.int .u64 0, .int .u64 0, .int .u64 0, .int .u64 0, .int .u64 0, .int .u64 0, .int .u64 0, .int .u64 0], .int .i64 0], []⟩ 8 (by kernel_rfl) (by kernel_rfl) (by kernel_rfl) (by kernel_rfl)) ?_
  intro W base args ds gs before hval0 hW _ _
  have hval : ∀ (j : Nat) t v, Try.f11.params[j]? = some t → args[j]? = some v → Value.okWide Try.prog W .any base t v := hval0
  obtain ⟨p, q, hA0, -⟩ := id hW
  have hA : DataW.TrodAll enc Try.prog W 0 (fun _ => true) true [25, 3] args.toList ds p := hA0
  obtain ⟨args⟩ := args
  simp only at hA
  obtain ⟨v0, r0, d0, e0, p0, q0, rfl, rfl, -, -, hA0⟩ := trodAll_cons hA
  obtain ⟨v1, r1, d1, e1, p1, q1, rfl, rfl, -, -, hA1⟩ := trodAll_cons hA0
  obtain ⟨rfl, rfl, -⟩ := trodAll_nil hA1
  obtain ⟨f0, rfl, w0⟩ := open_cells (t := 25) (u := 22) (n := 8) (k := .u64) (by kernel_rfl) (by kernel_rfl) (by kernel_rfl) (by decide) Try.underlying22 (hval 0 25 v0 rfl rfl)
  have z0 := u64_of w0
  obtain ⟨f1, rfl, w1⟩ := open_num (t := 3) (k := .i64) Try.underlying3 (hval 1 3 v1 rfl rfl)
  have z1 := i64_of w1
  have hc := law_calls Try.func11 (by kernel_rfl) (by kernel_rfl) lawShift_ok (avs := [.arr .u64 8 f0, .int .i64 f1]) (v := .bool true) (by simp only [lawShiftS]; exact if_pos ⟨z0, z1.2⟩) rfl rfl W
  refine hc.mono fun e W' hq => ⟨.bool true, hq.1, post_flat (tb := 4) rfl (by kernel_rfl) rfl Try.underlying4 hW rfl hq.2⟩

theorem wideShift_holds : Rows.WideShiftSaid :=
  OpenClaim.holds_of_wide 11 Try.f11 rfl rfl rfl rfl rfl rfl rfl ⟨rfl, rfl, rfl, rfl, rfl⟩ rfl rfl rfl rfl rfl (by kernel_rfl) Try.func11 (by kernel_rfl)
    (of_decide_eq_true (by kernel_rfl)) (by unfold Func.isWrapper; first | (rw [if_pos (by decide +kernel)]; kernel_rfl) | (rw [if_neg (by decide +kernel)]; exact ⟨rfl, rfl⟩))
    (fun os started H enc _ => wideShift_lifted os started H enc)

end Go.Proofs.Yticlgpdmelhbhaa
