/- The statement PoseBehind: for whatever numbers and lists the call returns true, and what came in reads as it did. -/
import Derived.Test.YtgfpllfimpgooaaGreatJUS
import Derived.Test.YtgfpllfimpgooaaGreatJXY
import Derived.Test.YtgfpllfimpgooaaGreatGR
import Derived.Test.YtgfpllfimpgooaaGreatRows
import Derived.Test.YtgfpllfimpgooaaGreatChecked
namespace Go.Proofs.YtgfpllfimpgooaaGreat
open Go.ChangeShapes Go.WideShapes Go.X

theorem own : ownKnob Tryz.prog.godebug = none := by kernel_rfl
theorem i64_of {n : Int} (h : IntKind.i64.has n) : -9223372036854775808 ≤ n ∧ n < 9223372036854775808 := by
  simp [IntKind.has, IntKind.min, IntKind.max, IntKind.signed, IntKind.bits] at h
  omega
theorem laid_out : laidOutB Tryz.prog = true := by kernel_rfl
theorem maps_rowed : mapsRowed Tryz.prog = true := by kernel_rfl
theorem slices_sized : ((List.range Tryz.prog.types.size).all fun t => match Tryz.prog.underlying t with | some (.slice e) => decide (0 < Tryz.prog.cellsOf e) | _ => true) = true := by kernel_rfl

set_option maxRecDepth 100000 in
theorem poseBehind_lifted (os : Os) (started : os.Started) (H : Type) (enc : TypeId × Value → H) :
    ReturnsInHanded {} Tryz.checked os 14 .any (Rows.poseBehindSpec.pre6 enc Tryz.prog Tryz.f14 Rows.poseBehindRow.domain false) (Rows.poseBehindSpec.post enc Tryz.prog Tryz.f14 false true false false) := by
  refine returnsInHanded_of_change (C := Tryz.checked) own started (by kernel_rfl) Tryz.func14
    (ChangeSpec.witness6 (enc := enc) (C := Tryz.checked) false ⟨#[], #[.agg #[.int .i64 0, .int .i64 0, .int .i64 0, .int .i64 0, .int .i64 0, .int .i64 0, .int .i64 0], .agg #[.int .i64 0, .int .i64 0, .int .i64 0], .agg #[.int .i64 0, .int .i64 0, .int .i64 0], .int .i64 0, .agg #[.int .i64 0, .int .i64 0, .int .i64 0, .int .i64 0, .int .i64 0, .slice none 0 0]], []⟩ 8 (by kernel_rfl) (by kernel_rfl) (by kernel_rfl) (by kernel_rfl)) ?_
  intro W base args ds gs before hval0 hW _ _
  have hval : ∀ (j : Nat) t v, Tryz.f14.params[j]? = some t → args[j]? = some v → Value.okWide Tryz.prog W .any base t v := hval0
  obtain ⟨p, q, hA0, -⟩ := id hW
  have hA : DataW.TrodAll enc Tryz.prog W 0 (fun _ => true) true [33, 24, 24, 22, 27] args.toList ds p := hA0
  obtain ⟨args⟩ := args
  simp only at hA
  obtain ⟨v0, r0, d0, e0, p0, q0, rfl, rfl, -, -, hA0⟩ := trodAll_cons hA
  obtain ⟨v1, r1, d1, e1, p1, q1, rfl, rfl, -, -, hA1⟩ := trodAll_cons hA0
  obtain ⟨v2, r2, d2, e2, p2, q2, rfl, rfl, -, -, hA2⟩ := trodAll_cons hA1
  obtain ⟨v3, r3, d3, e3, p3, q3, rfl, rfl, -, -, hA3⟩ := trodAll_cons hA2
  obtain ⟨v4, r4, d4, e4, p4, q4, rfl, rfl, -, ⟨n4, t4⟩, hA4⟩ := trodAll_cons hA3
  obtain ⟨rfl, rfl, -⟩ := trodAll_nil hA4
  obtain ⟨f0, rfl, w0⟩ := open_cells (t := 33) (u := 22) (n := 7) (k := .i64) (by kernel_rfl) (by kernel_rfl) (by kernel_rfl) (by decide) Tryz.underlying22 (hval 0 33 v0 rfl rfl)
  have z0_0 : InI (f0 0) := i64_of (w0 0 (by decide))
  have z0_1 : InI (f0 1) := i64_of (w0 1 (by decide))
  have z0_2 : InI (f0 2) := i64_of (w0 2 (by decide))
  have z0_3 : InI (f0 3) := i64_of (w0 3 (by decide))
  have z0_4 : InI (f0 4) := i64_of (w0 4 (by decide))
  have z0_5 : InI (f0 5) := i64_of (w0 5 (by decide))
  have z0_6 : InI (f0 6) := i64_of (w0 6 (by decide))
  obtain ⟨f1, rfl, w1⟩ := open_cells (t := 24) (u := 22) (n := 3) (k := .i64) (by kernel_rfl) (by kernel_rfl) (by kernel_rfl) (by decide) Tryz.underlying22 (hval 1 24 v1 rfl rfl)
  have z1_0 : InI (f1 0) := i64_of (w1 0 (by decide))
  have z1_1 : InI (f1 1) := i64_of (w1 1 (by decide))
  have z1_2 : InI (f1 2) := i64_of (w1 2 (by decide))
  obtain ⟨f2, rfl, w2⟩ := open_cells (t := 24) (u := 22) (n := 3) (k := .i64) (by kernel_rfl) (by kernel_rfl) (by kernel_rfl) (by decide) Tryz.underlying22 (hval 2 24 v2 rfl rfl)
  have z2_0 : InI (f2 0) := i64_of (w2 0 (by decide))
  have z2_1 : InI (f2 1) := i64_of (w2 1 (by decide))
  have z2_2 : InI (f2 2) := i64_of (w2 2 (by decide))
  obtain ⟨f3, rfl, w3⟩ := open_num (t := 22) (k := .i64) Tryz.underlying22 (hval 3 22 v3 rfl rfl)
  have z3 : InI f3 := i64_of w3
  obtain ⟨f4, l4, m4, rfl, w4, s4, h4⟩ := open_list (t := 27) (uL := 25) (e := 24) (n := 6) (k := 5) (ts := [3, 22, 22, 22, 22, 25]) (by kernel_rfl) (by kernel_rfl) (by kernel_rfl) rfl (by decide) (fun i h1 h2 => by
    have : i = 0 ∨ i = 1 ∨ i = 2 ∨ i = 3 ∨ i = 4 := by omega
    rcases this with rfl | rfl | rfl | rfl | rfl
    · exact Tryz.underlying3
    · exact Tryz.underlying22
    · exact Tryz.underlying22
    · exact Tryz.underlying22
    · exact Tryz.underlying22) rfl Tryz.underlying25 (hval 4 27 v4 rfl rfl)
  have a4 : Value.agg ((List.range 6).map fun i => if i = 5 then conc id l4 else .int .i64 (f4 i)).toArray = conc id (.agg [.int .i64 (f4 0), .int .i64 (f4 1), .int .i64 (f4 2), .int .i64 (f4 3), .int .i64 (f4 4), l4]) := by
    have e := s4.solid.2 id
    simp [List.range, List.range.loop, conc, concC, Value.cells] at e ⊢
    exact e.symm
  obtain ⟨n4b, y4, t4b⟩ := trod_field (i := 3) Tryz.underlying27 rfl t4
  have b4 : DataW.trod enc Tryz.prog W 0 (fun _ => true) true n4b 25 [conc id l4] = some y4 := t4b
  obtain ⟨F4, L4, g4⟩ := trod_list Tryz.underlying25 Tryz.underlying24 (by kernel_rfl) (fun i hi => by
    have : i = 0 ∨ i = 1 ∨ i = 2 := by omega
    rcases this with rfl | rfl | rfl <;> exact ⟨Tryz.underlying22, rfl, by kernel_rfl⟩) s4 h4 b4
  have z4_0 : InI (f4 0) := i64_of (w4 0 (by decide) (by decide))
  have z4_1 : InI (f4 1) := i64_of (w4 1 (by decide) (by decide))
  have z4_2 : InI (f4 2) := i64_of (w4 2 (by decide) (by decide))
  have z4_3 : InI (f4 3) := i64_of (w4 3 (by decide) (by decide))
  have z4_4 : InI (f4 4) := i64_of (w4 4 (by decide) (by decide))
  have hc := law_callsW (W := W) Tryz.func14 (by kernel_rfl) (by kernel_rfl) lawBeh11_ok (avs := [.agg [.int .i64 (f0 0), .int .i64 (f0 1), .int .i64 (f0 2), .int .i64 (f0 3), .int .i64 (f0 4), .int .i64 (f0 5), .int .i64 (f0 6)], .agg [.int .i64 (f1 0), .int .i64 (f1 1), .int .i64 (f1 2)], .agg [.int .i64 (f2 0), .int .i64 (f2 1), .int .i64 (f2 2)], .int .i64 f3, .agg [.int .i64 (f4 0), .int .i64 (f4 1), .int .i64 (f4 2), .int .i64 (f4 3), .int .i64 (f4 4), l4]]) (v := .bool true) (by simp only [lawBeh11S, L4]; exact if_pos ⟨⟨z4_0, z4_1, z4_2, z4_3, z4_4, fun j hj => i64_of (g4 j hj)⟩, z0_0, z0_1, z0_2, z0_3, z0_4, z0_5, z0_6, z1_0, z1_1, z1_2, z2_0, z2_1, z2_2, z3⟩) rfl (by
    intro c hc
    simp [refs, refsL] at hc
    first | exact h4 c hc | (rcases hc with hc | hc <;> first | exact h4 c hc | exact h4 c hc)) (by simp [s4.solid.1])
  rw [a4]
  refine hc.mono fun e W' hq => ⟨.bool true, hq.1, post_list (tb := 4) laid_out maps_rowed slices_sized (by kernel_rfl) rfl rfl Tryz.underlying4 (by first | exact hW | (rw [a4] at hW; exact hW)) rfl hq.2⟩

theorem poseBehind_closed : joinedFacts Tryz.prog 14 Tryz.f14 Rows.poseBehindSpec Rows.poseBehindRow = true := by
  unfold joinedFacts
  rw [Tryz.fact25, Tryz.fact26, Tryz.fact27]
  kernel_rfl

theorem poseBehind_holds : Rows.PoseBehindSaid :=
  OpenClaim.holds_of_wide 14 Tryz.f14 rfl rfl rfl rfl rfl rfl rfl ⟨rfl, rfl, rfl, rfl, rfl⟩ rfl rfl rfl rfl rfl (by kernel_rfl) Tryz.func14 poseBehind_closed
    (of_decide_eq_true (by kernel_rfl)) (by unfold Func.isWrapper; first | (rw [if_pos (by decide +kernel)]; kernel_rfl) | (rw [if_neg (by decide +kernel)]; exact ⟨rfl, rfl⟩))
    (fun os started H enc _ => poseBehind_lifted os started H enc)

end Go.Proofs.YtgfpllfimpgooaaGreat
