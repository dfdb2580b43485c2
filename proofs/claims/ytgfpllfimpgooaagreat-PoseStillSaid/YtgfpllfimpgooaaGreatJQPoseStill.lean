/- The statement PoseStill: for whatever numbers and lists the call returns true, and what came in reads as it did. -/
import Derived.Test.YtgfpllfimpgooaaGreatJUV
import Derived.Test.YtgfpllfimpgooaaGreatJXY
import Derived.Test.YtgfpllfimpgooaaGreatGR
import Derived.Test.YtgfpllfimpgooaaGreatRows
import Derived.Test.YtgfpllfimpgooaaGreatChecked
namespace Go.Proofs.YtgfpllfimpgooaaGreat
open Go.ChangeShapes Go.WideShapes Go.X

theorem own : ownKnob Tryz.prog.godebug = none := by kernel_rfl
theorem i64_of {n : Int} (h : IntKind.i64.has n) : -9223372036854775808 ≤ n ∧ n < 9223372036854775808 := by
  simp [IntKind.has, IntKind.min, IntKind.max, IntKind.signed, IntKind.bits] at h
  omega
theorem laid_out : laidOutB Tryz.prog = true := by kernel_rfl
theorem maps_rowed : mapsRowed Tryz.prog = true := by kernel_rfl
theorem slices_sized : ((List.range Tryz.prog.types.size).all fun t => match Tryz.prog.underlying t with | some (.slice e) => decide (0 < Tryz.prog.cellsOf e) | _ => true) = true := by kernel_rfl

set_option maxRecDepth 100000 in
theorem poseStill_lifted (os : Os) (started : os.Started) (H : Type) (enc : TypeId × Value → H) :
    ReturnsInHanded {} Tryz.checked os 3 .any (Rows.poseStillSpec.pre6 enc Tryz.prog Tryz.f3 Rows.poseStillRow.domain false) (Rows.poseStillSpec.post enc Tryz.prog Tryz.f3 false true false false) := by
  refine returnsInHanded_of_change (C := Tryz.checked) own started (by kernel_rfl) Tryz.func3
    (ChangeSpec.witness6 (enc := enc) (C := Tryz.checked) false ⟨#[], #[.agg #[.int .i64 0, .int .i64 0, .int .i64 0], .agg #[.int .i64 0, .int .i64 0, .int .i64 0], .agg #[.int .i64 0, .int .i64 0, .int .i64 0, .int .i64 0, .int .i64 0, .slice none 0 0]], []⟩ 8 (by kernel_rfl) (by kernel_rfl) (by kernel_rfl) (by kernel_rfl)) ?_
  intro W base args ds gs before hval0 hW _ _
  have hval : ∀ (j : Nat) t v, Tryz.f3.params[j]? = some t → args[j]? = some v → Value.okWide Tryz.prog W .any base t v := hval0
  obtain ⟨p, q, hA0, -⟩ := id hW
  have hA : DataW.TrodAll enc Tryz.prog W 0 (fun _ => true) true [24, 24, 27] args.toList ds p := hA0
  obtain ⟨args⟩ := args
  simp only at hA
  obtain ⟨v0, r0, d0, e0, p0, q0, rfl, rfl, -, -, hA0⟩ := trodAll_cons hA
  obtain ⟨v1, r1, d1, e1, p1, q1, rfl, rfl, -, -, hA1⟩ := trodAll_cons hA0
  obtain ⟨v2, r2, d2, e2, p2, q2, rfl, rfl, -, ⟨n2, t2⟩, hA2⟩ := trodAll_cons hA1
  obtain ⟨rfl, rfl, -⟩ := trodAll_nil hA2
  obtain ⟨f0, rfl, w0⟩ := open_cells (t := 24) (u := 22) (n := 3) (k := .i64) (by kernel_rfl) (by kernel_rfl) (by kernel_rfl) (by decide) Tryz.underlying22 (hval 0 24 v0 rfl rfl)
  have z0_0 : InI (f0 0) := i64_of (w0 0 (by decide))
  have z0_1 : InI (f0 1) := i64_of (w0 1 (by decide))
  have z0_2 : InI (f0 2) := i64_of (w0 2 (by decide))
  obtain ⟨f1, rfl, w1⟩ := open_cells (t := 24) (u := 22) (n := 3) (k := .i64) (by kernel_rfl) (by kernel_rfl) (by kernel_rfl) (by decide) Tryz.underlying22 (hval 1 24 v1 rfl rfl)
  have z1_0 : InI (f1 0) := i64_of (w1 0 (by decide))
  have z1_1 : InI (f1 1) := i64_of (w1 1 (by decide))
  have z1_2 : InI (f1 2) := i64_of (w1 2 (by decide))
  obtain ⟨f2, l2, m2, rfl, w2, s2, h2⟩ := open_list (t := 27) (uL := 25) (e := 24) (n := 6) (k := 5) (ts := [3, 22, 22, 22, 22, 25]) (by kernel_rfl) (by kernel_rfl) (by kernel_rfl) rfl (by decide) (fun i h1 h2 => by
    have : i = 0 ∨ i = 1 ∨ i = 2 ∨ i = 3 ∨ i = 4 := by omega
    rcases this with rfl | rfl | rfl | rfl | rfl
    · exact Tryz.underlying3
    · exact Tryz.underlying22
    · exact Tryz.underlying22
    · exact Tryz.underlying22
    · exact Tryz.underlying22) rfl Tryz.underlying25 (hval 2 27 v2 rfl rfl)
  have a2 : Value.agg ((List.range 6).map fun i => if i = 5 then conc id l2 else .int .i64 (f2 i)).toArray = conc id (.agg [.int .i64 (f2 0), .int .i64 (f2 1), .int .i64 (f2 2), .int .i64 (f2 3), .int .i64 (f2 4), l2]) := by
    have e := s2.solid.2 id
    simp [List.range, List.range.loop, conc, concC, Value.cells] at e ⊢
    exact e.symm
  obtain ⟨n2b, y2, t2b⟩ := trod_field (i := 3) Tryz.underlying27 rfl t2
  have b2 : DataW.trod enc Tryz.prog W 0 (fun _ => true) true n2b 25 [conc id l2] = some y2 := t2b
  obtain ⟨F2, L2, g2⟩ := trod_list Tryz.underlying25 Tryz.underlying24 (by kernel_rfl) (fun i hi => by
    have : i = 0 ∨ i = 1 ∨ i = 2 := by omega
    rcases this with rfl | rfl | rfl <;> exact ⟨Tryz.underlying22, rfl, by kernel_rfl⟩) s2 h2 b2
  have z2_0 : InI (f2 0) := i64_of (w2 0 (by decide) (by decide))
  have z2_1 : InI (f2 1) := i64_of (w2 1 (by decide) (by decide))
  have z2_2 : InI (f2 2) := i64_of (w2 2 (by decide) (by decide))
  have z2_3 : InI (f2 3) := i64_of (w2 3 (by decide) (by decide))
  have z2_4 : InI (f2 4) := i64_of (w2 4 (by decide) (by decide))
  have hc := law_callsW (W := W) Tryz.func3 (by kernel_rfl) (by kernel_rfl) lawStl11_ok (avs := [.agg [.int .i64 (f0 0), .int .i64 (f0 1), .int .i64 (f0 2)], .agg [.int .i64 (f1 0), .int .i64 (f1 1), .int .i64 (f1 2)], .agg [.int .i64 (f2 0), .int .i64 (f2 1), .int .i64 (f2 2), .int .i64 (f2 3), .int .i64 (f2 4), l2]]) (v := .bool true) (by simp only [lawStl11S, L2]; exact if_pos ⟨⟨z2_0, z2_1, z2_2, z2_3, z2_4, fun j hj => i64_of (g2 j hj)⟩, z0_0, z0_1, z0_2, z1_0, z1_1, z1_2⟩) rfl (by
    intro c hc
    simp [refs, refsL] at hc
    first | exact h2 c hc | (rcases hc with hc | hc <;> first | exact h2 c hc | exact h2 c hc)) (by simp [s2.solid.1])
  rw [a2]
  refine hc.mono fun e W' hq => ⟨.bool true, hq.1, post_list (tb := 4) laid_out maps_rowed slices_sized (by kernel_rfl) rfl rfl Tryz.underlying4 (by first | exact hW | (rw [a2] at hW; exact hW)) rfl hq.2⟩

theorem poseStill_closed : joinedFacts Tryz.prog 3 Tryz.f3 Rows.poseStillSpec Rows.poseStillRow = true := by
  unfold joinedFacts
  rw [Tryz.fact25, Tryz.fact26, Tryz.fact27]
  kernel_rfl

theorem poseStill_holds : Rows.PoseStillSaid :=
  OpenClaim.holds_of_wide 3 Tryz.f3 rfl rfl rfl rfl rfl rfl rfl ⟨rfl, rfl, rfl, rfl, rfl⟩ rfl rfl rfl rfl rfl (by kernel_rfl) Tryz.func3 poseStill_closed
    (of_decide_eq_true (by kernel_rfl)) (by unfold Func.isWrapper; first | (rw [if_pos (by decide +kernel)]; kernel_rfl) | (rw [if_neg (by decide +kernel)]; exact ⟨rfl, rfl⟩))
    (fun os started H enc _ => poseStill_lifted os started H enc)

end Go.Proofs.YtgfpllfimpgooaaGreat
