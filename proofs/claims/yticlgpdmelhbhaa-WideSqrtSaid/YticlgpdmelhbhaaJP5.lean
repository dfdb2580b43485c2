/- The statement WideSqrt: for whatever numbers the call returns true, and what came in reads as it did. -/
import Derived.Test.YticlgpdmelhbhaaJR5
import Derived.Test.YticlgpdmelhbhaaRows
import Derived.Test.YticlgpdmelhbhaaChecked
namespace Go.Proofs.Yticlgpdmelhbhaa
open Go.ChangeShapes Go.WideShapes Go.X

theorem own : ownKnob Try.prog.godebug = none := by kernel_rfl
theorem u64_of {f : Nat → Int} (h : ∀ i, i < 8 → IntKind.u64.has (f i)) : R8 f := by
  intro i hi
  have := h i hi
  simp [IntKind.has, IntKind.min, IntKind.max, IntKind.signed, IntKind.bits] at this
  omega
theorem i64_of {n : Int} (h : IntKind.i64.has n) : -9223372036854775808 ≤ n ∧ n < 9223372036854775808 := by
  simp [IntKind.has, IntKind.min, IntKind.max, IntKind.signed, IntKind.bits] at h
  omega

set_option maxRecDepth 100000 in
theorem wideSqrt_lifted (os : Os) (started : os.Started) (H : Type) (enc : TypeId × Value → H) :
    ReturnsInHanded {} Try.checked os 5 .any (Rows.wideSqrtSpec.pre6 enc Try.prog Try.f5 Rows.wideSqrtRow.domain false) (Rows.wideSqrtSpec.post enc Try.prog Try.f5 false true false false) := by
  refine returnsInHanded_of_change (C := Try.checked) own started (by kernel_rfl) Try.func5
    (ChangeSpec.witness6 (enc := enc) (C := Try.checked) false ⟨#[], #[.agg #[.int .u64 0, .int .u64 0, .int .u64 0, .int .u64 0, .int .u64 0, .int .u64 0, .int .u64 0, .int .u64 0]], []⟩ 8 (by kernel_rfl) (by kernel_rfl) (by kernel_rfl) (by kernel_rfl)) ?_
  intro W base args ds gs before hval0 hW _ _
  have hval : ∀ (j : Nat) t v, Try.f5.params[j]? = some t → args[j]? = some v → Value.okWide Try.prog W .any base t v := hval0
  obtain ⟨p, q, hA0, -⟩ := id hW
  have hA : DataW.TrodAll enc Try.prog W 0 (fun _ => true) true [25] args.toList ds p := hA0
  obtain ⟨args⟩ := args
  simp only at hA
  obtain ⟨v0, r0, d0, e0, p0, q0, rfl, rfl, -, -, hA0⟩ := trodAll_cons hA
  obtain ⟨rfl, rfl, -⟩ := trodAll_nil hA0
  obtain ⟨f0, rfl, w0⟩ := open_cells (t := 25) (u := 22) (n := 8) (k := .u64) (by kernel_rfl) (by kernel_rfl) (by kernel_rfl) (by decide) Try.underlying22 (hval 0 25 v0 rfl rfl)
  have z0 := u64_of w0
  have hc := law_calls Try.func5 (by kernel_rfl) (by kernel_rfl) lawSqrt_ok (avs := [.arr .u64 8 f0]) (v := .bool true) (by simp only [lawSqrtS]; exact if_pos z0) rfl rfl W
  refine hc.mono fun e W' hq => ⟨.bool true, hq.1, post_flat (tb := 4) rfl (by kernel_rfl) rfl Try.underlying4 hW rfl hq.2⟩

theorem wideSqrt_holds : Rows.WideSqrtSaid :=
  OpenClaim.holds_of_wide 5 Try.f5 rfl rfl rfl rfl rfl rfl rfl ⟨rfl, rfl, rfl, rfl, rfl⟩ rfl rfl rfl rfl rfl (by kernel_rfl) Try.func5 (by kernel_rfl)
    (of_decide_eq_true (by kernel_rfl)) (by unfold Func.isWrapper; first | (rw [if_pos (by decide +kernel)]; kernel_rfl) | (rw [if_neg (by decide +kernel)]; exact ⟨rfl, rfl⟩))
    (fun os started H enc _ => wideSqrt_lifted os started H enc)

end Go.Proofs.Yticlgpdmelhbhaa
