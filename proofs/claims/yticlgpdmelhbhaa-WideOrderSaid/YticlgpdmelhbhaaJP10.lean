/- The statement WideOrder: for whatever numbers the call returns true, and what came in reads as it did. -/
import Derived.Test.YticlgpdmelhbhaaJR10
import Derived.Test.YticlgpdmelhbhaaRows
import Derived.Test.YticlgpdmelhbhaaChecked
namespace Go.Proofs.Yticlgpdmelhbhaa
open Go.ChangeShapes Go.WideShapes Go.X

theorem own : ownKnob Try.prog.godebug = none := by kernel_rfl
theorem u64_of {f : Nat → Int} (h : ∀ i, i < 8 → IntKind.u64.has (f i)) : R8 f := by
  intro i hi
  have := h i hi
  simp [IntKind.has, IntKind.min, IntKind.max, IntKind.signed, IntKind.bits] at this
  omega
theorem i64_of {n : Int} (h : IntKind.i64.has n) : -9223372036854775808 ≤ n ∧ n < 9223372036854775808 := by
  simp [IntKind.has, IntKind.min, IntKind.max, IntKind.signed, IntKind.bits] at h
  omega

set_option maxRecDepth 100000 in
theorem wideOrder_lifted (os : Os) (started : os.Started) (H : Type) (enc : TypeId × Value → H) :
    ReturnsInHanded {} Try.checked os 10 .any (Rows.wideOrderSpec.pre6 enc Try.prog Try.f10 Rows.wideOrderRow.domain false) (Rows.wideOrderSpec.post enc Try.prog Try.f10 false true false false) := by
  refine returnsInHanded_of_change (C := Try.checked) own started (by kernel_rfl) Try.func10
    (ChangeSpec.witness6 (enc := enc) (C := Try.checked) false ⟨#[], #[.agg #[.int .u64 0, .int .u64 0, .int .u64 0, .int .u64 0, .int .u64 0, .int .u64 0, .int .u64 0, .int .u64 0], .agg #[.int .u64 0, .int .u64 0, .int .u64 0, .int .u64 0, .int .u64 0, .int .u64 0, .int .u64 0, .int .u64 0], .agg #[.int .u64 0, .int .u64 0, .int .u64 0, .int .u64 0, .int .u64 0, .int .u64 0, .int .u64 0, .int .u64 0], .int .i64 0, .int .i64 0], []⟩ 8 (by kernel_rfl) (by kernel_rfl) (by kernel_rfl) (by kernel_rfl)) ?_
  intro W base args ds gs before hval0 hW _ _
  have hval : ∀ (j : Nat) t v, Try.f10.params[j]? = some t → args[j]? = some v → Value.okWide Try.prog W .any base t v := hval0
  obtain ⟨p, q, hA0, -⟩ := id hW
  have hA : DataW.TrodAll enc Try.prog W 0 (fun _ => true) true [25, 25, 25, 2, 2] args.toList ds p := hA0
  obtain ⟨args⟩ := args
  simp only at hA
  obtain ⟨v0, r0, d0, e0, p0, q0, rfl, rfl, -, -, hA0⟩ := trodAll_cons hA
  obtain ⟨v1, r1, d1, e1, p1, q1, rfl, rfl, -, -, hA1⟩ := trodAll_cons hA0
  obtain ⟨v2, r2, d2, e2, p2, q2, rfl, rfl, -, -, hA2⟩ := trodAll_cons hA1
  obtain ⟨v3, r3, d3, e3, p3, q3, rfl, rfl, -, -, hA3⟩ := trodAll_cons hA2
  obtain ⟨v4, r4, d4, e4, p4, q4, rfl, rfl, -, -, hA4⟩ := trodAll_cons hA3
  obtain ⟨rfl, rfl, -⟩ := trodAll_nil hA4
  obtain ⟨f0, rfl, w0⟩ := open_cells (t := 25) (u := 22) (n := 8) (k := .u64) (by kernel_rfl) (by kernel_rfl) (by kernel_rfl) (by decide) Try.underlying22 (hval 0 25 v0 rfl rfl)
  have z0 := u64_of w0
  obtain ⟨f1, rfl, w1⟩ := open_cells (t := 25) (u := 22) (n := 8) (k := .u64) (by kernel_rfl) (by kernel_rfl) (by kernel_rfl) (by decide) Try.underlying22 (hval 1 25 v1 rfl rfl)
  have z1 := u64_of w1
  obtain ⟨f2, rfl, w2⟩ := open_cells (t := 25) (u := 22) (n := 8) (k := .u64) (by kernel_rfl) (by kernel_rfl) (by kernel_rfl) (by decide) Try.underlying22 (hval 2 25 v2 rfl rfl)
  have z2 := u64_of w2
  obtain ⟨f3, rfl, w3⟩ := open_num (t := 2) (k := .i64) Try.underlying2 (hval 3 2 v3 rfl rfl)
  have z3 := i64_of w3
  obtain ⟨f4, rfl, w4⟩ := open_num (t := 2) (k := .i64) Try.underlying2 (hval 4 2 v4 rfl rfl)
  have z4 := i64_of w4
  have hc := law_calls Try.func10 (by kernel_rfl) (by kernel_rfl) lawOrder_ok (avs := [.arr .u64 8 f0, .arr .u64 8 f1, .arr .u64 8 f2, .int .i64 f3, .int .i64 f4]) (v := .bool true) (by simp only [lawOrderS]; exact if_pos ⟨z0, z1, z2, z3, z4⟩) rfl rfl W
  refine hc.mono fun e W' hq => ⟨.bool true, hq.1, post_flat (tb := 4) rfl (by kernel_rfl) rfl Try.underlying4 hW rfl hq.2⟩

theorem wideOrder_holds : Rows.WideOrderSaid :=
  OpenClaim.holds_of_wide 10 Try.f10 rfl rfl rfl rfl rfl rfl rfl ⟨rfl, rfl, rfl, rfl, rfl⟩ rfl rfl rfl rfl rfl (by kernel_rfl) Try.func10 (by kernel_rfl)
    (of_decide_eq_true (by kernel_rfl)) (by unfold Func.isWrapper; first | (rw [if_pos (by decide +kernel)]; kernel_rfl) | (rw [if_neg (by decide +kernel)]; exact ⟨rfl, rfl⟩))
    (fun os started H enc _ => wideOrder_lifted os started H enc)

end Go.Proofs.Yticlgpdmelhbhaa
