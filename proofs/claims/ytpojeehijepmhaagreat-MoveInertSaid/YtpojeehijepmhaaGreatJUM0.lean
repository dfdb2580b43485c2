/- The reference of masses: a moment. -/
import Derived.Test.YtpojeehijepmhaaGreatJS3
import Derived.Test.YtpojeehijepmhaaGreatJS6
import Derived.Test.YtpojeehijepmhaaGreatGX
namespace Go.X
open Go.Proofs
attribute [local irreducible] Good
noncomputable def r10momS : List AV → PR
  | [.int .i64 m, .int .i64 a, .int .i64 b] => open Classical in if InI m ∧ InI a ∧ InI b then .val (.int .i64 (momI m a b)) else .fail
  | _ => .fail
@[simp] theorem r10momS_val {m a b : Int} (h : InI m ∧ InI a ∧ InI b) : r10momS [.int .i64 m, .int .i64 a, .int .i64 b] = .val (.int .i64 (momI m a b)) := if_pos h
set_option maxHeartbeats 40000000 in
theorem r10mom_ok : SumOk Tryz.prog 44 (pureS r10momS) := by
  refine sum_fn (L := fun i => if i = 3 then some (.quiet 7) else if i = 4 then some (.held 10 [6, 7]) else none) (n := 1) (S := stOf [(98, pureS divS), (100, pureS ofS), (101, pureS rwithinS), (97, pureS r3plusS), (96, pureS r3rawS), (95, pureS r3timesS), (99, pureS r3twiceS)]) drawS Tryz.T_ok (stOf_ok (by simp [rdiv_ok, small_ok, rwithin_ok, r3plus_ok, r3raw_ok, r3times_ok, r3twice_ok])) Tryz.func44 rfl (by kernel_rfl) (by kernel_rfl) ?_
    (by intro args v h; unfold r10momS at h; split at h <;> (try split at h) <;> simp at h)
  intro args v h
  unfold r10momS at h
  split at h
  · rename_i m a b
    split at h
    · rename_i hc
      obtain ⟨hm, ha, hb⟩ := hc
      cases h
      refine ⟨by simp, by simp, by simp, ?_⟩
      have i0 : InW (a * a) := ((Bd.of ha).mul (Bd.of ha)).w (by decide)
      have i1 : InW (b * b) := ((Bd.of hb).mul (Bd.of hb)).w (by decide)
      have i2 : InW (a * a + b * b) := (((Bd.of ha).mul (Bd.of ha)).add ((Bd.of hb).mul (Bd.of hb))).w (by decide)
      have i3 : InW (m * (a * a + b * b)) := ((Bd.of hm).mul (((Bd.of ha).mul (Bd.of ha)).add ((Bd.of hb).mul (Bd.of hb)))).w (by decide)
      have b3 : Bd 260 (m * (a * a + b * b)) := ((Bd.of hm).mul (((Bd.of ha).mul (Bd.of ha)).add ((Bd.of hb).mul (Bd.of hb)))).mono (by decide)
      have iq : InW (quoI (m * (a * a + b * b)) 55340232221128654848) := (b3.quoI (by decide)).w (by decide)
      have j3 : InW 3 := InI.w (by decide)
      have j6 : InW 55340232221128654848 := (show Bd 66 55340232221128654848 by unfold Bd; decide).w (by decide)
      have ir : InW (remI (m * (a * a + b * b)) 55340232221128654848) := remI_in (a := m * (a * a + b * b)) (by decide) j6
      simp (maxSteps := 10000000) [hm, ha, hb, fitI hm, fitI ha, fitI hb, i0, sval_limb i0, i1, sval_limb i1, i2, sval_limb i2, i3, sval_limb i3, R8_limb, Tryz.f44, quoV, momI_other, iq, sval_limb iq, sval_limb j3, j6, sval_limb j6, ofS_in (show InI 3 by decide)]
    · simp at h
  · simp at h
end Go.X
