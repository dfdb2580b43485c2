/- The statement MoveInert: for whatever numbers and lists the call returns true, and what came in reads as it did. -/
import Derived.Test.YtpojeehijepmhaaGreatJTM
import Derived.Test.YtpojeehijepmhaaGreatJXY
import Derived.Test.YtpojeehijepmhaaGreatGR
import Derived.Test.YtpojeehijepmhaaGreatRows
import Derived.Test.YtpojeehijepmhaaGreatChecked
namespace Go.Proofs.YtpojeehijepmhaaGreat
open Go.ChangeShapes Go.WideShapes Go.X
theorem own : ownKnob Tryz.prog.godebug = none := by kernel_rfl
theorem i64_of {n : Int} (h : IntKind.i64.has n) : -9223372036854775808 ≤ n ∧ n < 9223372036854775808 := by
  simp [IntKind.has, IntKind.min, IntKind.max, IntKind.signed, IntKind.bits] at h
  omega
theorem laid_out : laidOutB Tryz.prog = true := by kernel_rfl
theorem maps_rowed : mapsRowed Tryz.prog = true := by kernel_rfl
theorem slices_sized : ((List.range Tryz.prog.types.size).all fun t => match Tryz.prog.underlying t with | some (.slice e) => decide (0 < Tryz.prog.cellsOf e) | _ => true) = true := by kernel_rfl
set_option maxRecDepth 100000 in
theorem moveInert_lifted (os : Os) (started : os.Started) (H : Type) (enc : TypeId × Value → H) :
    ReturnsInHanded {} Tryz.checked os 3 .any (Rows.moveInertSpec.pre6 enc Tryz.prog Tryz.f3 Rows.moveInertRow.domain false) (Rows.moveInertSpec.post enc Tryz.prog Tryz.f3 false true false false) := by
  refine returnsInHanded_of_change (C := Tryz.checked) own started (by kernel_rfl) Tryz.func3
    (ChangeSpec.witness6 (enc := enc) (C := Tryz.checked) false ⟨#[], #[.agg #[.int .i64 0, .int .i64 0, .int .i64 0, .int .i64 0, .int .i64 0, .int .i64 0, .slice none 0 0, .int .i64 0, .int .i64 0, .int .i64 0, .int .i64 0, .int .i64 0, .int .i64 0, .int .i64 0, .int .i64 0, .int .i64 0, .int .i64 0, .int .i64 0, .int .i64 0, .int .i64 0, .int .i64 0, .int .i64 0], .agg #[.int .i64 0, .int .i64 0, .int .i64 0, .int .i64 0, .int .i64 0, .int .i64 0, .slice none 0 0, .int .i64 0, .int .i64 0, .int .i64 0, .int .i64 0, .int .i64 0, .int .i64 0, .int .i64 0, .int .i64 0, .int .i64 0, .int .i64 0, .int .i64 0, .int .i64 0, .int .i64 0, .int .i64 0, .int .i64 0]], []⟩ 8 (by kernel_rfl) (by kernel_rfl) (by kernel_rfl) (by kernel_rfl)) ?_
  intro W base args ds gs before hval0 hW _ _
  have hval : ∀ (j : Nat) t v, Tryz.f3.params[j]? = some t → args[j]? = some v → Value.okWide Tryz.prog W .any base t v := hval0
  obtain ⟨p, q, hA0, -⟩ := id hW
  have hA : DataW.TrodAll enc Tryz.prog W 0 (fun _ => true) true [35, 35] args.toList ds p := hA0
  obtain ⟨args⟩ := args
  simp only at hA
  obtain ⟨v0, r0, d0, e0, p0, q0, rfl, rfl, -, ⟨n0, t0⟩, hA0⟩ := trodAll_cons hA
  obtain ⟨v1, r1, d1, e1, p1, q1, rfl, rfl, -, ⟨n1, t1⟩, hA1⟩ := trodAll_cons hA0
  obtain ⟨rfl, rfl, -⟩ := trodAll_nil hA1
  obtain ⟨f0, l0, m0, rfl, w0, s0, h0⟩ := open_list (t := 35) (uL := 25) (e := 24) (n := 22) (k := 6) (ts := [3, 3, 22, 22, 22, 22, 25, 22, 22, 22, 22, 22, 22, 22, 22, 22, 22, 22, 22, 22, 22, 22]) (by kernel_rfl) (by kernel_rfl) (by kernel_rfl) rfl (by decide) (fun i h1 h2 => by
    have : i = 0 ∨ i = 1 ∨ i = 2 ∨ i = 3 ∨ i = 4 ∨ i = 5 ∨ i = 7 ∨ i = 8 ∨ i = 9 ∨ i = 10 ∨ i = 11 ∨ i = 12 ∨ i = 13 ∨ i = 14 ∨ i = 15 ∨ i = 16 ∨ i = 17 ∨ i = 18 ∨ i = 19 ∨ i = 20 ∨ i = 21 := by omega
    rcases this with rfl | rfl | rfl | rfl | rfl | rfl | rfl | rfl | rfl | rfl | rfl | rfl | rfl | rfl | rfl | rfl | rfl | rfl | rfl | rfl | rfl
    · exact Tryz.underlying3
    · exact Tryz.underlying3
    · exact Tryz.underlying22
    · exact Tryz.underlying22
    · exact Tryz.underlying22
    · exact Tryz.underlying22
    · exact Tryz.underlying22
    · exact Tryz.underlying22
    · exact Tryz.underlying22
    · exact Tryz.underlying22
    · exact Tryz.underlying22
    · exact Tryz.underlying22
    · exact Tryz.underlying22
    · exact Tryz.underlying22
    · exact Tryz.underlying22
    · exact Tryz.underlying22
    · exact Tryz.underlying22
    · exact Tryz.underlying22
    · exact Tryz.underlying22
    · exact Tryz.underlying22
    · exact Tryz.underlying22) rfl Tryz.underlying25 (hval 0 35 v0 rfl rfl)
  have a0 : Value.agg ((List.range 22).map fun i => if i = 6 then conc id l0 else .int .i64 (f0 i)).toArray = conc id (.agg [.int .i64 (f0 0), .int .i64 (f0 1), .int .i64 (f0 2), .int .i64 (f0 3), .int .i64 (f0 4), .int .i64 (f0 5), l0, .int .i64 (f0 7), .int .i64 (f0 8), .int .i64 (f0 9), .int .i64 (f0 10), .int .i64 (f0 11), .int .i64 (f0 12), .int .i64 (f0 13), .int .i64 (f0 14), .int .i64 (f0 15), .int .i64 (f0 16), .int .i64 (f0 17), .int .i64 (f0 18), .int .i64 (f0 19), .int .i64 (f0 20), .int .i64 (f0 21)]) := by
    have e := s0.solid.2 id
    simp [List.range, List.range.loop, conc, concC, Value.cells] at e ⊢
    first | exact e.symm | (rw [e]; rfl)
  obtain ⟨n0c, y0c, t0c⟩ := trod_field (i := 1) Tryz.underlying35 rfl t0
  obtain ⟨n0d, y0d, t0d⟩ := trod_field (i := 0) Tryz.underlying33 rfl t0c
  obtain ⟨n0b, y0, t0b⟩ := trod_field (i := 3) Tryz.underlying27 rfl t0d
  have b0 : DataW.trod enc Tryz.prog W 0 (fun _ => true) true n0b 25 [conc id l0] = some y0 := t0b
  obtain ⟨F0, L0, g0⟩ := trod_list Tryz.underlying25 Tryz.underlying24 (by kernel_rfl) (fun i hi => by
    have : i = 0 ∨ i = 1 ∨ i = 2 := by omega
    rcases this with rfl | rfl | rfl <;> exact ⟨Tryz.underlying22, rfl, by kernel_rfl⟩) s0 h0 b0
  have z0_0 : InI (f0 0) := i64_of (w0 0 (by decide) (by decide))
  have z0_1 : InI (f0 1) := i64_of (w0 1 (by decide) (by decide))
  have z0_2 : InI (f0 2) := i64_of (w0 2 (by decide) (by decide))
  have z0_3 : InI (f0 3) := i64_of (w0 3 (by decide) (by decide))
  have z0_4 : InI (f0 4) := i64_of (w0 4 (by decide) (by decide))
  have z0_5 : InI (f0 5) := i64_of (w0 5 (by decide) (by decide))
  have z0_7 : InI (f0 7) := i64_of (w0 7 (by decide) (by decide))
  have z0_8 : InI (f0 8) := i64_of (w0 8 (by decide) (by decide))
  have z0_9 : InI (f0 9) := i64_of (w0 9 (by decide) (by decide))
  have z0_10 : InI (f0 10) := i64_of (w0 10 (by decide) (by decide))
  have z0_11 : InI (f0 11) := i64_of (w0 11 (by decide) (by decide))
  have z0_12 : InI (f0 12) := i64_of (w0 12 (by decide) (by decide))
  have z0_13 : InI (f0 13) := i64_of (w0 13 (by decide) (by decide))
  have z0_14 : InI (f0 14) := i64_of (w0 14 (by decide) (by decide))
  have z0_15 : InI (f0 15) := i64_of (w0 15 (by decide) (by decide))
  have z0_16 : InI (f0 16) := i64_of (w0 16 (by decide) (by decide))
  have z0_17 : InI (f0 17) := i64_of (w0 17 (by decide) (by decide))
  have z0_18 : InI (f0 18) := i64_of (w0 18 (by decide) (by decide))
  have z0_19 : InI (f0 19) := i64_of (w0 19 (by decide) (by decide))
  have z0_20 : InI (f0 20) := i64_of (w0 20 (by decide) (by decide))
  have z0_21 : InI (f0 21) := i64_of (w0 21 (by decide) (by decide))
  obtain ⟨f1, l1, m1, rfl, w1, s1, h1⟩ := open_list (t := 35) (uL := 25) (e := 24) (n := 22) (k := 6) (ts := [3, 3, 22, 22, 22, 22, 25, 22, 22, 22, 22, 22, 22, 22, 22, 22, 22, 22, 22, 22, 22, 22]) (by kernel_rfl) (by kernel_rfl) (by kernel_rfl) rfl (by decide) (fun i h1 h2 => by
    have : i = 0 ∨ i = 1 ∨ i = 2 ∨ i = 3 ∨ i = 4 ∨ i = 5 ∨ i = 7 ∨ i = 8 ∨ i = 9 ∨ i = 10 ∨ i = 11 ∨ i = 12 ∨ i = 13 ∨ i = 14 ∨ i = 15 ∨ i = 16 ∨ i = 17 ∨ i = 18 ∨ i = 19 ∨ i = 20 ∨ i = 21 := by omega
    rcases this with rfl | rfl | rfl | rfl | rfl | rfl | rfl | rfl | rfl | rfl | rfl | rfl | rfl | rfl | rfl | rfl | rfl | rfl | rfl | rfl | rfl
    · exact Tryz.underlying3
    · exact Tryz.underlying3
    · exact Tryz.underlying22
    · exact Tryz.underlying22
    · exact Tryz.underlying22
    · exact Tryz.underlying22
    · exact Tryz.underlying22
    · exact Tryz.underlying22
    · exact Tryz.underlying22
    · exact Tryz.underlying22
    · exact Tryz.underlying22
    · exact Tryz.underlying22
    · exact Tryz.underlying22
    · exact Tryz.underlying22
    · exact Tryz.underlying22
    · exact Tryz.underlying22
    · exact Tryz.underlying22
    · exact Tryz.underlying22
    · exact Tryz.underlying22
    · exact Tryz.underlying22
    · exact Tryz.underlying22) rfl Tryz.underlying25 (hval 1 35 v1 rfl rfl)
  have a1 : Value.agg ((List.range 22).map fun i => if i = 6 then conc id l1 else .int .i64 (f1 i)).toArray = conc id (.agg [.int .i64 (f1 0), .int .i64 (f1 1), .int .i64 (f1 2), .int .i64 (f1 3), .int .i64 (f1 4), .int .i64 (f1 5), l1, .int .i64 (f1 7), .int .i64 (f1 8), .int .i64 (f1 9), .int .i64 (f1 10), .int .i64 (f1 11), .int .i64 (f1 12), .int .i64 (f1 13), .int .i64 (f1 14), .int .i64 (f1 15), .int .i64 (f1 16), .int .i64 (f1 17), .int .i64 (f1 18), .int .i64 (f1 19), .int .i64 (f1 20), .int .i64 (f1 21)]) := by
    have e := s1.solid.2 id
    simp [List.range, List.range.loop, conc, concC, Value.cells] at e ⊢
    first | exact e.symm | (rw [e]; rfl)
  obtain ⟨n1c, y1c, t1c⟩ := trod_field (i := 1) Tryz.underlying35 rfl t1
  obtain ⟨n1d, y1d, t1d⟩ := trod_field (i := 0) Tryz.underlying33 rfl t1c
  obtain ⟨n1b, y1, t1b⟩ := trod_field (i := 3) Tryz.underlying27 rfl t1d
  have b1 : DataW.trod enc Tryz.prog W 0 (fun _ => true) true n1b 25 [conc id l1] = some y1 := t1b
  obtain ⟨F1, L1, g1⟩ := trod_list Tryz.underlying25 Tryz.underlying24 (by kernel_rfl) (fun i hi => by
    have : i = 0 ∨ i = 1 ∨ i = 2 := by omega
    rcases this with rfl | rfl | rfl <;> exact ⟨Tryz.underlying22, rfl, by kernel_rfl⟩) s1 h1 b1
  have z1_0 : InI (f1 0) := i64_of (w1 0 (by decide) (by decide))
  have z1_1 : InI (f1 1) := i64_of (w1 1 (by decide) (by decide))
  have z1_2 : InI (f1 2) := i64_of (w1 2 (by decide) (by decide))
  have z1_3 : InI (f1 3) := i64_of (w1 3 (by decide) (by decide))
  have z1_4 : InI (f1 4) := i64_of (w1 4 (by decide) (by decide))
  have z1_5 : InI (f1 5) := i64_of (w1 5 (by decide) (by decide))
  have z1_7 : InI (f1 7) := i64_of (w1 7 (by decide) (by decide))
  have z1_8 : InI (f1 8) := i64_of (w1 8 (by decide) (by decide))
  have z1_9 : InI (f1 9) := i64_of (w1 9 (by decide) (by decide))
  have z1_10 : InI (f1 10) := i64_of (w1 10 (by decide) (by decide))
  have z1_11 : InI (f1 11) := i64_of (w1 11 (by decide) (by decide))
  have z1_12 : InI (f1 12) := i64_of (w1 12 (by decide) (by decide))
  have z1_13 : InI (f1 13) := i64_of (w1 13 (by decide) (by decide))
  have z1_14 : InI (f1 14) := i64_of (w1 14 (by decide) (by decide))
  have z1_15 : InI (f1 15) := i64_of (w1 15 (by decide) (by decide))
  have z1_16 : InI (f1 16) := i64_of (w1 16 (by decide) (by decide))
  have z1_17 : InI (f1 17) := i64_of (w1 17 (by decide) (by decide))
  have z1_18 : InI (f1 18) := i64_of (w1 18 (by decide) (by decide))
  have z1_19 : InI (f1 19) := i64_of (w1 19 (by decide) (by decide))
  have z1_20 : InI (f1 20) := i64_of (w1 20 (by decide) (by decide))
  have z1_21 : InI (f1 21) := i64_of (w1 21 (by decide) (by decide))
  have hc := law_callsW (W := W) Tryz.func3 (by kernel_rfl) (by kernel_rfl) lawInert24_ok (avs := [.agg [.int .i64 (f0 0), .int .i64 (f0 1), .int .i64 (f0 2), .int .i64 (f0 3), .int .i64 (f0 4), .int .i64 (f0 5), l0, .int .i64 (f0 7), .int .i64 (f0 8), .int .i64 (f0 9), .int .i64 (f0 10), .int .i64 (f0 11), .int .i64 (f0 12), .int .i64 (f0 13), .int .i64 (f0 14), .int .i64 (f0 15), .int .i64 (f0 16), .int .i64 (f0 17), .int .i64 (f0 18), .int .i64 (f0 19), .int .i64 (f0 20), .int .i64 (f0 21)], .agg [.int .i64 (f1 0), .int .i64 (f1 1), .int .i64 (f1 2), .int .i64 (f1 3), .int .i64 (f1 4), .int .i64 (f1 5), l1, .int .i64 (f1 7), .int .i64 (f1 8), .int .i64 (f1 9), .int .i64 (f1 10), .int .i64 (f1 11), .int .i64 (f1 12), .int .i64 (f1 13), .int .i64 (f1 14), .int .i64 (f1 15), .int .i64 (f1 16), .int .i64 (f1 17), .int .i64 (f1 18), .int .i64 (f1 19), .int .i64 (f1 20), .int .i64 (f1 21)]]) (v := .bool true) (by simp only [lawInert24S, L0, L1]; exact if_pos ⟨⟨z0_0, ⟨z0_7, z0_8, z0_9, z0_10, z0_11, z0_12, z0_13⟩, ⟨z0_14, ⟨z0_15, z0_16, z0_17⟩, z0_18, z0_19, z0_20⟩, z0_21⟩, ⟨z0_1, z0_2, z0_3, z0_4, z0_5, fun j hj => i64_of (g0 j hj)⟩⟩) rfl (by
    intro c hc
    simp [refs, refsL] at hc
    first | exact h0 c hc | (rcases hc with hc | hc <;> first | exact h0 c hc | exact h1 c hc)) (by simp [s0.solid.1, s1.solid.1])
  rw [a0, a1]
  refine hc.mono fun e W' hq => ⟨.bool true, hq.1, post_list (tb := 4) laid_out maps_rowed slices_sized (by kernel_rfl) rfl rfl Tryz.underlying4 (by first | exact hW | (rw [a0, a1] at hW; exact hW)) rfl hq.2⟩
theorem moveInert_closed : joinedFacts Tryz.prog 3 Tryz.f3 Rows.moveInertSpec Rows.moveInertRow = true := by
  unfold joinedFacts
  rw [Tryz.fact25, Tryz.fact26, Tryz.fact27]
  kernel_rfl
theorem moveInert_holds : Rows.MoveInertSaid :=
  OpenClaim.holds_of_wide 3 Tryz.f3 rfl rfl rfl rfl rfl rfl rfl ⟨rfl, rfl, rfl, rfl, rfl⟩ rfl rfl rfl rfl rfl (by kernel_rfl) Tryz.func3 moveInert_closed
    (of_decide_eq_true (by kernel_rfl)) (by unfold Func.isWrapper; first | (rw [if_pos (by decide +kernel)]; kernel_rfl) | (rw [if_neg (by decide +kernel)]; exact ⟨rfl, rfl⟩))
    (fun os started H enc _ => moveInert_lifted os started H enc)
end Go.Proofs.YtpojeehijepmhaaGreat
