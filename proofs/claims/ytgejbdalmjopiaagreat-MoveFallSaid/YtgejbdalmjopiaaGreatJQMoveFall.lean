/- The statement MoveFall: for whatever numbers and lists the call returns true, and what came in reads as it did. -/
import Derived.Test.YtgejbdalmjopiaaGreatJTN
import Derived.Test.YtgejbdalmjopiaaGreatJXY
import Derived.Test.YtgejbdalmjopiaaGreatGR
import Derived.Test.YtgejbdalmjopiaaGreatRows
import Derived.Test.YtgejbdalmjopiaaGreatChecked
namespace Go.Proofs.YtgejbdalmjopiaaGreat
open Go.ChangeShapes Go.WideShapes Go.X

theorem own : ownKnob Tryz.prog.godebug = none := by kernel_rfl
theorem i64_of {n : Int} (h : IntKind.i64.has n) : -9223372036854775808 ≤ n ∧ n < 9223372036854775808 := by
  simp [IntKind.has, IntKind.min, IntKind.max, IntKind.signed, IntKind.bits] at h
  omega
theorem laid_out : laidOutB Tryz.prog = true := by kernel_rfl
theorem maps_rowed : mapsRowed Tryz.prog = true := by kernel_rfl
theorem slices_sized : ((List.range Tryz.prog.types.size).all fun t => match Tryz.prog.underlying t with | some (.slice e) => decide (0 < Tryz.prog.cellsOf e) | _ => true) = true := by kernel_rfl

set_option maxRecDepth 100000 in
theorem moveFall_lifted (os : Os) (started : os.Started) (H : Type) (enc : TypeId × Value → H) :
    ReturnsInHanded {} Tryz.checked os 5 .any (Rows.moveFallSpec.pre6 enc Tryz.prog Tryz.f5 Rows.moveFallRow.domain false) (Rows.moveFallSpec.post enc Tryz.prog Tryz.f5 false true false false) := by
  refine returnsInHanded_of_change (C := Tryz.checked) own started (by kernel_rfl) Tryz.func5
    (ChangeSpec.witness6 (enc := enc) (C := Tryz.checked) false ⟨#[], #[.agg #[.int .i64 0, .int .i64 0, .int .i64 0, .int .i64 0, .int .i64 0, .int .i64 0, .slice none 0 0, .int .i64 0, .int .i64 0, .int .i64 0, .int .i64 0, .int .i64 0, .int .i64 0, .int .i64 0, .int .i64 0, .int .i64 0, .int .i64 0, .int .i64 0, .int .i64 0, .int .i64 0, .int .i64 0, .int .i64 0], .agg #[.int .i64 0, .int .i64 0, .int .i64 0], .agg #[.int .i64 0, .int .i64 0, .int .i64 0], .int .i64 0], []⟩ 8 (by kernel_rfl) (by kernel_rfl) (by kernel_rfl) (by kernel_rfl)) ?_
  intro W base args ds gs before hval0 hW _ _
  have hval : ∀ (j : Nat) t v, Tryz.f5.params[j]? = some t → args[j]? = some v → Value.okWide Tryz.prog W .any base t v := hval0
  obtain ⟨p, q, hA0, -⟩ := id hW
  have hA : DataW.TrodAll enc Tryz.prog W 0 (fun _ => true) true [35, 24, 24, 22] args.toList ds p := hA0
  obtain ⟨args⟩ := args
  simp only at hA
  obtain ⟨v0, r0, d0, e0, p0, q0, rfl, rfl, -, ⟨n0, t0⟩, hA0⟩ := trodAll_cons hA
  obtain ⟨v1, r1, d1, e1, p1, q1, rfl, rfl, -, -, hA1⟩ := trodAll_cons hA0
  obtain ⟨v2, r2, d2, e2, p2, q2, rfl, rfl, -, -, hA2⟩ := trodAll_cons hA1
  obtain ⟨v3, r3, d3, e3, p3, q3, rfl, rfl, -, -, hA3⟩ := trodAll_cons hA2
  obtain ⟨rfl, rfl, -⟩ := trodAll_nil hA3
  obtain ⟨f0, l0, m0, rfl, w0, s0, h0⟩ := open_list (t := 35) (uL := 25) (e := 24) (n := 22) (k := 6) (ts := [3, 3, 22, 22, 22, 22, 25, 22, 22, 22, 22, 22, 22, 22, 22, 22, 22, 22, 22, 22, 22, 22]) (by kernel_rfl) (by kernel_rfl) (by kernel_rfl) rfl (by decide) (fun i h1 h2 => by
    have : i = 0 ∨ i = 1 ∨ i = 2 ∨ i = 3 ∨ i = 4 ∨ i = 5 ∨ i = 7 ∨ i = 8 ∨ i = 9 ∨ i = 10 ∨ i = 11 ∨ i = 12 ∨ i = 13 ∨ i = 14 ∨ i = 15 ∨ i = 16 ∨ i = 17 ∨ i = 18 ∨ i = 19 ∨ i = 20 ∨ i = 21 := by omega
    rcases this with rfl | rfl | rfl | rfl | rfl | rfl | rfl | rfl | rfl | rfl | rfl | rfl | rfl | rfl | rfl | rfl | rfl | rfl | rfl | rfl | rfl
    · exact Tryz.underlying3
    · exact Tryz.underlying3
    · exact Tryz.underlying22
    · exact Tryz.underlying22
    · exact Tryz.underlying22
    · exact Tryz.underlying22
    · exact Tryz.underlying22
    · exact Tryz.underlying22
    · exact Tryz.underlying22
    · exact Tryz.underlying22
    · exact Tryz.underlying22
    · exact Tryz.underlying22
    · exact Tryz.underlying22
    · exact Tryz.underlying22
    · exact Tryz.underlying22
    · exact Tryz.underlying22
    · exact Tryz.underlying22
    · exact Tryz.underlying22
    · exact Tryz.underlying22
    · exact Tryz.underlying22
    · exact Tryz.underlying22) rfl Tryz.underlying25 (hval 0 35 v0 rfl rfl)
  have a0 : Value.agg ((List.range 22).map fun i => if i = 6 then conc id l0 else .int .i64 (f0 i)).toArray = conc id (.agg [.int .i64 (f0 0), .int .i64 (f0 1), .int .i64 (f0 2), .int .i64 (f0 3), .int .i64 (f0 4), .int .i64 (f0 5), l0, .int .i64 (f0 7), .int .i64 (f0 8), .int .i64 (f0 9), .int .i64 (f0 10), .int .i64 (f0 11), .int .i64 (f0 12), .int .i64 (f0 13), .int .i64 (f0 14), .int .i64 (f0 15), .int .i64 (f0 16), .int .i64 (f0 17), .int .i64 (f0 18), .int .i64 (f0 19), .int .i64 (f0 20), .int .i64 (f0 21)]) := by
    have e := s0.solid.2 id
    simp [List.range, List.range.loop, conc, concC, Value.cells] at e ⊢
    first | exact e.symm | (rw [e]; rfl)
  obtain ⟨n0c, y0c, t0c⟩ := trod_field (i := 1) Tryz.underlying35 rfl t0
  obtain ⟨n0d, y0d, t0d⟩ := trod_field (i := 0) Tryz.underlying33 rfl t0c
  obtain ⟨n0b, y0, t0b⟩ := trod_field (i := 3) Tryz.underlying27 rfl t0d
  have b0 : DataW.trod enc Tryz.prog W 0 (fun _ => true) true n0b 25 [conc id l0] = some y0 := t0b
  obtain ⟨F0, L0, g0⟩ := trod_list Tryz.underlying25 Tryz.underlying24 (by kernel_rfl) (fun i hi => by
    have : i = 0 ∨ i = 1 ∨ i = 2 := by omega
    rcases this with rfl | rfl | rfl <;> exact ⟨Tryz.underlying22, rfl, by kernel_rfl⟩) s0 h0 b0
  have z0_0 : InI (f0 0) := i64_of (w0 0 (by decide) (by decide))
  have z0_1 : InI (f0 1) := i64_of (w0 1 (by decide) (by decide))
  have z0_2 : InI (f0 2) := i64_of (w0 2 (by decide) (by decide))
  have z0_3 : InI (f0 3) := i64_of (w0 3 (by decide) (by decide))
  have z0_4 : InI (f0 4) := i64_of (w0 4 (by decide) (by decide))
  have z0_5 : InI (f0 5) := i64_of (w0 5 (by decide) (by decide))
  have z0_7 : InI (f0 7) := i64_of (w0 7 (by decide) (by decide))
  have z0_8 : InI (f0 8) := i64_of (w0 8 (by decide) (by decide))
  have z0_9 : InI (f0 9) := i64_of (w0 9 (by decide) (by decide))
  have z0_10 : InI (f0 10) := i64_of (w0 10 (by decide) (by decide))
  have z0_11 : InI (f0 11) := i64_of (w0 11 (by decide) (by decide))
  have z0_12 : InI (f0 12) := i64_of (w0 12 (by decide) (by decide))
  have z0_13 : InI (f0 13) := i64_of (w0 13 (by decide) (by decide))
  have z0_14 : InI (f0 14) := i64_of (w0 14 (by decide) (by decide))
  have z0_15 : InI (f0 15) := i64_of (w0 15 (by decide) (by decide))
  have z0_16 : InI (f0 16) := i64_of (w0 16 (by decide) (by decide))
  have z0_17 : InI (f0 17) := i64_of (w0 17 (by decide) (by decide))
  have z0_18 : InI (f0 18) := i64_of (w0 18 (by decide) (by decide))
  have z0_19 : InI (f0 19) := i64_of (w0 19 (by decide) (by decide))
  have z0_20 : InI (f0 20) := i64_of (w0 20 (by decide) (by decide))
  have z0_21 : InI (f0 21) := i64_of (w0 21 (by decide) (by decide))
  obtain ⟨f1, rfl, w1⟩ := open_cells (t := 24) (u := 22) (n := 3) (k := .i64) (by kernel_rfl) (by kernel_rfl) (by kernel_rfl) (by decide) Tryz.underlying22 (hval 1 24 v1 rfl rfl)
  have z1_0 : InI (f1 0) := i64_of (w1 0 (by decide))
  have z1_1 : InI (f1 1) := i64_of (w1 1 (by decide))
  have z1_2 : InI (f1 2) := i64_of (w1 2 (by decide))
  obtain ⟨f2, rfl, w2⟩ := open_cells (t := 24) (u := 22) (n := 3) (k := .i64) (by kernel_rfl) (by kernel_rfl) (by kernel_rfl) (by decide) Tryz.underlying22 (hval 2 24 v2 rfl rfl)
  have z2_0 : InI (f2 0) := i64_of (w2 0 (by decide))
  have z2_1 : InI (f2 1) := i64_of (w2 1 (by decide))
  have z2_2 : InI (f2 2) := i64_of (w2 2 (by decide))
  obtain ⟨f3, rfl, w3⟩ := open_num (t := 22) (k := .i64) Tryz.underlying22 (hval 3 22 v3 rfl rfl)
  have z3 : InI f3 := i64_of w3
  have hc := law_callsW (W := W) Tryz.func5 (by kernel_rfl) (by kernel_rfl) lawFall24_ok (avs := [.agg [.int .i64 (f0 0), .int .i64 (f0 1), .int .i64 (f0 2), .int .i64 (f0 3), .int .i64 (f0 4), .int .i64 (f0 5), l0, .int .i64 (f0 7), .int .i64 (f0 8), .int .i64 (f0 9), .int .i64 (f0 10), .int .i64 (f0 11), .int .i64 (f0 12), .int .i64 (f0 13), .int .i64 (f0 14), .int .i64 (f0 15), .int .i64 (f0 16), .int .i64 (f0 17), .int .i64 (f0 18), .int .i64 (f0 19), .int .i64 (f0 20), .int .i64 (f0 21)], .agg [.int .i64 (f1 0), .int .i64 (f1 1), .int .i64 (f1 2)], .agg [.int .i64 (f2 0), .int .i64 (f2 1), .int .i64 (f2 2)], .int .i64 f3]) (v := .bool true) (by simp only [lawFall24S, L0]; exact if_pos ⟨⟨z0_0, ⟨z0_7, z0_8, z0_9, z0_10, z0_11, z0_12, z0_13⟩, ⟨z0_14, ⟨z0_15, z0_16, z0_17⟩, z0_18, z0_19, z0_20⟩, z0_21⟩, ⟨z0_1, z0_2, z0_3, z0_4, z0_5, fun j hj => i64_of (g0 j hj)⟩, z1_0, z1_1, z1_2, z2_0, z2_1, z2_2, z3⟩) rfl (by
    intro c hc
    simp [refs, refsL] at hc
    first | exact h0 c hc | (rcases hc with hc | hc <;> first | exact h0 c hc | exact h0 c hc)) (by simp [s0.solid.1])
  rw [a0]
  refine hc.mono fun e W' hq => ⟨.bool true, hq.1, post_list (tb := 4) laid_out maps_rowed slices_sized (by kernel_rfl) rfl rfl Tryz.underlying4 (by first | exact hW | (rw [a0] at hW; exact hW)) rfl hq.2⟩

theorem moveFall_closed : joinedFacts Tryz.prog 5 Tryz.f5 Rows.moveFallSpec Rows.moveFallRow = true := by
  unfold joinedFacts
  rw [Tryz.fact25, Tryz.fact26, Tryz.fact27]
  kernel_rfl

theorem moveFall_holds : Rows.MoveFallSaid :=
  OpenClaim.holds_of_wide 5 Tryz.f5 rfl rfl rfl rfl rfl rfl rfl ⟨rfl, rfl, rfl, rfl, rfl⟩ rfl rfl rfl rfl rfl (by kernel_rfl) Tryz.func5 moveFall_closed
    (of_decide_eq_true (by kernel_rfl)) (by unfold Func.isWrapper; first | (rw [if_pos (by decide +kernel)]; kernel_rfl) | (rw [if_neg (by decide +kernel)]; exact ⟨rfl, rfl⟩))
    (fun os started H enc _ => moveFall_lifted os started H enc)

end Go.Proofs.YtgejbdalmjopiaaGreat
