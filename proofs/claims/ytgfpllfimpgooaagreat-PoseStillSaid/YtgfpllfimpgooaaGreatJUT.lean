/- The difference of two vectors. -/
import Derived.Test.YtgfpllfimpgooaaGreatJUN
namespace Go.X
open Go.Proofs
attribute [local irreducible] Good
noncomputable def qOneS : List AV → PR
  | [] => .val (.agg [.int .i64 4294967296, .int .i64 0, .int .i64 0, .int .i64 0])
  | _ => .fail
@[simp] theorem qOneS_val : qOneS [] = .val (.agg [.int .i64 4294967296, .int .i64 0, .int .i64 0, .int .i64 0]) := rfl
theorem qOne_ok : SumOk Tryz.prog 16 (pureS qOneS) := by
  refine sum_fn (L := fun _ => none) (n := 1) (S := stOf []) drawS Tryz.T_ok (stOf_ok (by simp)) Tryz.func16 rfl (by kernel_rfl) (by kernel_rfl) ?_
    (by intro args v h; unfold qOneS at h; split at h <;> (try split at h) <;> simp at h)
  intro args v h
  unfold qOneS at h
  split at h
  · skip
    cases h
    refine ⟨by simp, by simp, by simp, ?_⟩
    simp [Tryz.f16]
  · simp at h

noncomputable def foppoS : List AV → PR
  | [.arr .u64 8 f] => open Classical in if R8 f ∧ InW (-sval f) then .val (W (-sval f)) else .fail
  | _ => .fail
@[simp] theorem foppoS_val {f : Nat → Int} (h : R8 f ∧ InW (-sval f)) : foppoS [.arr .u64 8 f] = .val (W (-sval f)) := if_pos h
theorem foppo_ok : SumOk Tryz.prog 132 (pureS foppoS) := by
  refine sum_fn (L := fun _ => none) (n := 1) (S := stOf [(198, pureS negateS)]) drawS Tryz.T_ok (stOf_ok (by simp [negate_ok])) Tryz.func132 rfl (by kernel_rfl) (by kernel_rfl) ?_
    (by intro args v h; unfold foppoS at h; split at h <;> (try split at h) <;> simp at h)
  intro args v h
  unfold foppoS at h
  split at h
  · rename_i f
    split at h
    · rename_i hc
      obtain ⟨hf, e0⟩ := hc
      cases h
      refine ⟨by simp, by simp, by simp, ?_⟩
      simp [Tryz.f132, hf, e0, fitV]
    · simp at h
  · simp at h

noncomputable def fSubS : List AV → PR
  | [.int .i64 a, .int .i64 b] => open Classical in if InI a ∧ InI b then .val (.int .i64 (clampI (a - b))) else .fail
  | _ => .fail
@[simp] theorem fSubS_val {a b : Int} (h : InI a ∧ InI b) : fSubS [.int .i64 a, .int .i64 b] = .val (.int .i64 (clampI (a - b))) := if_pos h
theorem fSub_ok : SumOk Tryz.prog 71 (pureS fSubS) := by
  refine sum_fn (L := fun _ => none) (n := 1) (S := stOf [(132, pureS foppoS), (131, pureS frawS), (130, pureS fsumS), (123, pureS fwithinS)]) drawS Tryz.T_ok (stOf_ok (by simp [foppo_ok, fraw_ok, fsum_ok, fwithin_ok])) Tryz.func71 rfl (by kernel_rfl) (by kernel_rfl) ?_
    (by intro args v h; unfold fSubS at h; split at h <;> (try split at h) <;> simp at h)
  intro args v h
  unfold fSubS at h
  split at h
  · rename_i a b
    split at h
    · rename_i hc
      obtain ⟨ha, hb⟩ := hc
      cases h
      refine ⟨by simp, by simp, by simp, ?_⟩
      have i0 : InW (-b) := (Bd.of hb).neg.w (by decide)
      have i1 : InW (a - b) := ((Bd.of ha).sub (Bd.of hb)).w (by decide)
      have e : a + -b = a - b := by omega
      simp [Tryz.f71, ha, hb, fitI ha, fitI hb, i0, sval_limb i0, i1, sval_limb i1, R8_limb, e]
    · simp at h
  · simp at h



noncomputable def veachSS : List AV → PR
  | [.agg [.int .i64 a, .int .i64 b, .int .i64 c], .agg [.int .i64 d, .int .i64 e, .int .i64 f], .fn 71 []] => open Classical in if InI a ∧ InI b ∧ InI c ∧ InI d ∧ InI e ∧ InI f then .val (.agg [.int .i64 (clampI (a - d)), .int .i64 (clampI (b - e)), .int .i64 (clampI (c - f))]) else .fail
  | _ => .fail
@[simp] theorem veachSS_val {a b c d e f : Int} (h : InI a ∧ InI b ∧ InI c ∧ InI d ∧ InI e ∧ InI f) : veachSS [.agg [.int .i64 a, .int .i64 b, .int .i64 c], .agg [.int .i64 d, .int .i64 e, .int .i64 f], .fn 71 []] = .val (.agg [.int .i64 (clampI (a - d)), .int .i64 (clampI (b - e)), .int .i64 (clampI (c - f))]) := if_pos h
theorem veachS_ok : SumOk Tryz.prog 69 (pureS veachSS) := by
  refine sum_fn (L := fun i => if i = 1 then some (.quiet 19) else none) (n := 1) (S := stOf [(71, pureS fSubS)]) drawS Tryz.T_ok (stOf_ok (by simp [fSub_ok])) Tryz.func69 rfl (by kernel_rfl) (by kernel_rfl) ?_
    (by intro args v h; unfold veachSS at h; split at h <;> (try split at h) <;> simp at h)
  intro args v h
  unfold veachSS at h
  split at h
  · rename_i a b c d e f
    split at h
    · rename_i hc
      obtain ⟨ha, hb, hc, hd, he, hf⟩ := hc
      cases h
      refine ⟨by simp, by simp, by simp, ?_⟩
      simp [Tryz.f69, ha, hb, hc, hd, he, hf]
    · simp at h
  · simp at h

noncomputable def vSubS : List AV → PR
  | [.agg [.int .i64 a, .int .i64 b, .int .i64 c], .agg [.int .i64 d, .int .i64 e, .int .i64 f]] => open Classical in if InI a ∧ InI b ∧ InI c ∧ InI d ∧ InI e ∧ InI f then .val (.agg [.int .i64 (clampI (a - d)), .int .i64 (clampI (b - e)), .int .i64 (clampI (c - f))]) else .fail
  | _ => .fail
@[simp] theorem vSubS_val {a b c d e f : Int} (h : InI a ∧ InI b ∧ InI c ∧ InI d ∧ InI e ∧ InI f) : vSubS [.agg [.int .i64 a, .int .i64 b, .int .i64 c], .agg [.int .i64 d, .int .i64 e, .int .i64 f]] = .val (.agg [.int .i64 (clampI (a - d)), .int .i64 (clampI (b - e)), .int .i64 (clampI (c - f))]) := if_pos h
theorem vSub_ok : SumOk Tryz.prog 20 (pureS vSubS) := by
  refine sum_fn (L := fun _ => none) (n := 1) (S := stOf [(69, pureS veachSS), (71, pureS fSubS)]) drawS Tryz.T_ok (stOf_ok (by simp [veachS_ok, fSub_ok])) Tryz.func20 rfl (by kernel_rfl) (by kernel_rfl) ?_
    (by intro args v h; unfold vSubS at h; split at h <;> (try split at h) <;> simp at h)
  intro args v h
  unfold vSubS at h
  split at h
  · rename_i a b c d e f
    split at h
    · rename_i hc
      obtain ⟨ha, hb, hc, hd, he, hf⟩ := hc
      cases h
      refine ⟨by simp, by simp, by simp, ?_⟩
      simp [Tryz.f20, ha, hb, hc, hd, he, hf]
    · simp at h
  · simp at h

end Go.X
