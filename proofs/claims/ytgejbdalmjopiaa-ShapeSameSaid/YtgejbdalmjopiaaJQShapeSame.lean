/- The statement ShapeSame: for whatever numbers and lists the call returns true, and what came in reads as it did. -/
import Derived.Test.YtgejbdalmjopiaaJSK
import Derived.Test.YtgejbdalmjopiaaJXY
import Derived.Test.YtgejbdalmjopiaaGR
import Derived.Test.YtgejbdalmjopiaaRows
import Derived.Test.YtgejbdalmjopiaaChecked
namespace Go.Proofs.Ytgejbdalmjopiaa
open Go.ChangeShapes Go.WideShapes Go.X

theorem own : ownKnob Try.prog.godebug = none := by kernel_rfl
theorem i64_of {n : Int} (h : IntKind.i64.has n) : -9223372036854775808 ≤ n ∧ n < 9223372036854775808 := by
  simp [IntKind.has, IntKind.min, IntKind.max, IntKind.signed, IntKind.bits] at h
  omega
theorem laid_out : laidOutB Try.prog = true := by kernel_rfl
theorem maps_rowed : mapsRowed Try.prog = true := by kernel_rfl
theorem slices_sized : ((List.range Try.prog.types.size).all fun t => match Try.prog.underlying t with | some (.slice e) => decide (0 < Try.prog.cellsOf e) | _ => true) = true := by kernel_rfl

set_option maxRecDepth 100000 in
theorem shapeSame_lifted (os : Os) (started : os.Started) (H : Type) (enc : TypeId × Value → H) :
    ReturnsInHanded {} Try.checked os 6 .any (Rows.shapeSameSpec.pre6 enc Try.prog Try.f6 Rows.shapeSameRow.domain false) (Rows.shapeSameSpec.post enc Try.prog Try.f6 false true false false) := by
  refine returnsInHanded_of_change (C := Try.checked) own started (by kernel_rfl) Try.func6
    (ChangeSpec.witness6 (enc := enc) (C := Try.checked) false ⟨#[], #[.agg #[.int .i64 0, .int .i64 0, .int .i64 0, .int .i64 0, .int .i64 0, .slice none 0 0], .agg #[.int .i64 0, .int .i64 0, .int .i64 0, .int .i64 0, .int .i64 0, .slice none 0 0]], []⟩ 8 (by kernel_rfl) (by kernel_rfl) (by kernel_rfl) (by kernel_rfl)) ?_
  intro W base args ds gs before hval0 hW _ _
  have hval : ∀ (j : Nat) t v, Try.f6.params[j]? = some t → args[j]? = some v → Value.okWide Try.prog W .any base t v := hval0
  obtain ⟨p, q, hA0, -⟩ := id hW
  have hA : DataW.TrodAll enc Try.prog W 0 (fun _ => true) true [27, 27] args.toList ds p := hA0
  obtain ⟨args⟩ := args
  simp only at hA
  obtain ⟨v0, r0, d0, e0, p0, q0, rfl, rfl, -, ⟨n0, t0⟩, hA0⟩ := trodAll_cons hA
  obtain ⟨v1, r1, d1, e1, p1, q1, rfl, rfl, -, ⟨n1, t1⟩, hA1⟩ := trodAll_cons hA0
  obtain ⟨rfl, rfl, -⟩ := trodAll_nil hA1
  obtain ⟨f0, l0, m0, rfl, w0, s0, h0⟩ := open_list (t := 27) (uL := 25) (e := 24) (n := 6) (k := 5) (ts := [3, 22, 22, 22, 22, 25]) (by kernel_rfl) (by kernel_rfl) (by kernel_rfl) rfl (by decide) (fun i h1 h2 => by
    have : i = 0 ∨ i = 1 ∨ i = 2 ∨ i = 3 ∨ i = 4 := by omega
    rcases this with rfl | rfl | rfl | rfl | rfl
    · exact Try.underlying3
    · exact Try.underlying22
    · exact Try.underlying22
    · exact Try.underlying22
    · exact Try.underlying22) rfl Try.underlying25 (hval 0 27 v0 rfl rfl)
  have a0 : Value.agg ((List.range 6).map fun i => if i = 5 then conc id l0 else .int .i64 (f0 i)).toArray = conc id (.agg [.int .i64 (f0 0), .int .i64 (f0 1), .int .i64 (f0 2), .int .i64 (f0 3), .int .i64 (f0 4), l0]) := by
    have e := s0.solid.2 id
    simp [List.range, List.range.loop, conc, concC, Value.cells] at e ⊢
    exact e.symm
  obtain ⟨n0b, y0, t0b⟩ := trod_field (i := 3) Try.underlying27 rfl t0
  have b0 : DataW.trod enc Try.prog W 0 (fun _ => true) true n0b 25 [conc id l0] = some y0 := t0b
  obtain ⟨F0, L0, g0⟩ := trod_list Try.underlying25 Try.underlying24 (by kernel_rfl) (fun i hi => by
    have : i = 0 ∨ i = 1 ∨ i = 2 := by omega
    rcases this with rfl | rfl | rfl <;> exact ⟨Try.underlying22, rfl, by kernel_rfl⟩) s0 h0 b0
  have z0_0 : InI (f0 0) := i64_of (w0 0 (by decide) (by decide))
  have z0_1 : InI (f0 1) := i64_of (w0 1 (by decide) (by decide))
  have z0_2 : InI (f0 2) := i64_of (w0 2 (by decide) (by decide))
  have z0_3 : InI (f0 3) := i64_of (w0 3 (by decide) (by decide))
  have z0_4 : InI (f0 4) := i64_of (w0 4 (by decide) (by decide))
  obtain ⟨f1, l1, m1, rfl, w1, s1, h1⟩ := open_list (t := 27) (uL := 25) (e := 24) (n := 6) (k := 5) (ts := [3, 22, 22, 22, 22, 25]) (by kernel_rfl) (by kernel_rfl) (by kernel_rfl) rfl (by decide) (fun i h1 h2 => by
    have : i = 0 ∨ i = 1 ∨ i = 2 ∨ i = 3 ∨ i = 4 := by omega
    rcases this with rfl | rfl | rfl | rfl | rfl
    · exact Try.underlying3
    · exact Try.underlying22
    · exact Try.underlying22
    · exact Try.underlying22
    · exact Try.underlying22) rfl Try.underlying25 (hval 1 27 v1 rfl rfl)
  have a1 : Value.agg ((List.range 6).map fun i => if i = 5 then conc id l1 else .int .i64 (f1 i)).toArray = conc id (.agg [.int .i64 (f1 0), .int .i64 (f1 1), .int .i64 (f1 2), .int .i64 (f1 3), .int .i64 (f1 4), l1]) := by
    have e := s1.solid.2 id
    simp [List.range, List.range.loop, conc, concC, Value.cells] at e ⊢
    exact e.symm
  obtain ⟨n1b, y1, t1b⟩ := trod_field (i := 3) Try.underlying27 rfl t1
  have b1 : DataW.trod enc Try.prog W 0 (fun _ => true) true n1b 25 [conc id l1] = some y1 := t1b
  obtain ⟨F1, L1, g1⟩ := trod_list Try.underlying25 Try.underlying24 (by kernel_rfl) (fun i hi => by
    have : i = 0 ∨ i = 1 ∨ i = 2 := by omega
    rcases this with rfl | rfl | rfl <;> exact ⟨Try.underlying22, rfl, by kernel_rfl⟩) s1 h1 b1
  have z1_0 : InI (f1 0) := i64_of (w1 0 (by decide) (by decide))
  have z1_1 : InI (f1 1) := i64_of (w1 1 (by decide) (by decide))
  have z1_2 : InI (f1 2) := i64_of (w1 2 (by decide) (by decide))
  have z1_3 : InI (f1 3) := i64_of (w1 3 (by decide) (by decide))
  have z1_4 : InI (f1 4) := i64_of (w1 4 (by decide) (by decide))
  have hc := law_callsW (W := W) Try.func6 (by kernel_rfl) (by kernel_rfl) lawSame09_ok (avs := [.agg [.int .i64 (f0 0), .int .i64 (f0 1), .int .i64 (f0 2), .int .i64 (f0 3), .int .i64 (f0 4), l0], .agg [.int .i64 (f1 0), .int .i64 (f1 1), .int .i64 (f1 2), .int .i64 (f1 3), .int .i64 (f1 4), l1]]) (v := .bool true) (by simp only [lawSame09S, L0, L1]; exact if_pos trivial) rfl (by
    intro c hc
    simp [refs, refsL] at hc
    first | exact h0 c hc | (rcases hc with hc | hc <;> first | exact h0 c hc | exact h1 c hc)) (by simp [s0.solid.1, s1.solid.1])
  rw [a0, a1]
  refine hc.mono fun e W' hq => ⟨.bool true, hq.1, post_list (tb := 4) laid_out maps_rowed slices_sized (by kernel_rfl) rfl rfl Try.underlying4 (by first | exact hW | (rw [a0, a1] at hW; exact hW)) rfl hq.2⟩

theorem shapeSame_closed : joinedFacts Try.prog 6 Try.f6 Rows.shapeSameSpec Rows.shapeSameRow = true := by
  unfold joinedFacts
  rw [Try.fact25, Try.fact26, Try.fact27]
  kernel_rfl

theorem shapeSame_holds : Rows.ShapeSameSaid :=
  OpenClaim.holds_of_wide 6 Try.f6 rfl rfl rfl rfl rfl rfl rfl ⟨rfl, rfl, rfl, rfl, rfl⟩ rfl rfl rfl rfl rfl (by kernel_rfl) Try.func6 shapeSame_closed
    (of_decide_eq_true (by kernel_rfl)) (by unfold Func.isWrapper; first | (rw [if_pos (by decide +kernel)]; kernel_rfl) | (rw [if_neg (by decide +kernel)]; exact ⟨rfl, rfl⟩))
    (fun os started H enc _ => shapeSame_lifted os started H enc)

end Go.Proofs.Ytgejbdalmjopiaa
