/- Signs of the determinant; quotients; diagonals. -/
import Derived.Test.YtgejbdalmjopiaaJMG
namespace Go.X
open Go.Proofs
attribute [local irreducible] Good
attribute [simp] Try.T_124
attribute [simp] Try.T_137

/-- within, and not at an end -/
def Inner (a : Int) : Prop := -9223372036854775807 < a ∧ a < 9223372036854775807
instance (a : Int) : Decidable (Inner a) := inferInstanceAs (Decidable (_ ∧ _))
@[simp] theorem quoI_nil {b : Int} : quoI 0 b = 0 := by unfold quoI; split <;> simp
@[simp] theorem clampI_nil : clampI 0 = 0 := by decide

noncomputable def fupDS : List AV → PR
  | [] => .val (.bool false)
  | _ => .fail
@[simp] theorem fupDS_val : fupDS [] = .val (.bool false) := rfl
theorem fupD_ok : SumOk Try.prog 102 (pureS fupDS) := by
  refine sum_fn (L := fun _ => none) (n := 1) (S := stOf []) drawS Try.T_ok (stOf_ok (by simp)) Try.func102 rfl (by kernel_rfl) (by kernel_rfl) ?_
    (by intro args v h; unfold fupDS at h; split at h <;> (try split at h) <;> simp at h)
  intro args v h
  unfold fupDS at h
  split at h
  · skip
    cases h
    refine ⟨by simp, by simp, by simp, ?_⟩
    simp [Try.f102]
  · simp at h

noncomputable def fquoDS : List AV → PR
  | [.arr .u64 8 f, .arr .u64 8 g] => open Classical in if R8 f ∧ R8 g ∧ sval g ≠ 0 ∧ InW (quoI (sval f) (sval g)) then .val (W (quoI (sval f) (sval g))) else .fail
  | _ => .fail
@[simp] theorem fquoDS_val {f g : Nat → Int} (h : R8 f ∧ R8 g ∧ sval g ≠ 0 ∧ InW (quoI (sval f) (sval g))) : fquoDS [.arr .u64 8 f, .arr .u64 8 g] = .val (W (quoI (sval f) (sval g))) := if_pos h
theorem fquoD_ok : SumOk Try.prog 97 (pureS fquoDS) := by
  refine sum_fn (L := fun i => if i = 3 then some (.quiet 3) else none) (n := 1) (S := stOf [(38, pureS fsumS), (102, pureS fupDS), (34, pureS divS), (32, pureS ofS), (59, pureS signS)]) drawS Try.T_ok (stOf_ok (by simp [fsum_ok, fupD_ok, div_ok, of_ok, sign_ok])) Try.func97 rfl (by kernel_rfl) (by kernel_rfl) ?_
    (by intro args v h; unfold fquoDS at h; split at h <;> (try split at h) <;> simp at h)
  intro args v h
  unfold fquoDS at h
  split at h
  · rename_i f g
    split at h
    · rename_i hc
      obtain ⟨hf, hg, e0, e1⟩ := hc
      cases h
      refine ⟨by simp, by simp, by simp, ?_⟩
      simp [Try.f97, hf, hg, e0, e1, quoV]
    · simp at h
  · simp at h

noncomputable def foverDS : List AV → PR
  | [.int .i64 a, .int .i64 b] => open Classical in if InI a ∧ InI b ∧ b ≠ 0 then .val (.int .i64 (clampI (quoI (a * 4294967296) b))) else .fail
  | _ => .fail
@[simp] theorem foverDS_val {a b : Int} (h : InI a ∧ InI b ∧ b ≠ 0) : foverDS [.int .i64 a, .int .i64 b] = .val (.int .i64 (clampI (quoI (a * 4294967296) b))) := if_pos h
theorem foverD_ok : SumOk Try.prog 91 (pureS foverDS) := by
  refine sum_fn (L := fun _ => none) (n := 1) (S := stOf [(97, pureS fquoDS), (39, pureS frawS), (37, pureS fwithinS), (70, pureS shlS)]) drawS Try.T_ok (stOf_ok (by simp [fquoD_ok, fraw_ok, fwithin_ok, shl_ok])) Try.func91 rfl (by kernel_rfl) (by kernel_rfl) ?_
    (by intro args v h; unfold foverDS at h; split at h <;> (try split at h) <;> simp at h)
  intro args v h
  unfold foverDS at h
  split at h
  · rename_i a b
    split at h
    · rename_i hc
      obtain ⟨ha, hb, e0⟩ := hc
      cases h
      refine ⟨by simp, by simp, by simp, ?_⟩
      have v : Bd 95 (a * 4294967296) := by simpa using (Bd.of ha).shl 32
      have i := v.w (by decide)
      have q := v.quo (by decide) e0
      simp [Try.f91, ha, hb, e0, fitI ha, fitI hb, R8_limb, shlV, fitV, i, sval_limb i, q, sval_limb q]
    · simp at h
  · simp at h

noncomputable def fDivS : List AV → PR
  | [.int .i64 a, .int .i64 b] => open Classical in if InI a ∧ InI b ∧ b ≠ 0 then .val (.int .i64 (clampI (quoI (a * 4294967296) b))) else .fail
  | _ => .fail
@[simp] theorem fDivS_val {a b : Int} (h : InI a ∧ InI b ∧ b ≠ 0) : fDivS [.int .i64 a, .int .i64 b] = .val (.int .i64 (clampI (quoI (a * 4294967296) b))) := if_pos h
theorem fDiv_ok : SumOk Try.prog 78 (pureS fDivS) := by
  refine sum_fn (L := fun _ => none) (n := 1) (S := stOf [(91, pureS foverDS)]) drawS Try.T_ok (stOf_ok (by simp [foverD_ok])) Try.func78 rfl (by kernel_rfl) (by kernel_rfl) ?_
    (by intro args v h; unfold fDivS at h; split at h <;> (try split at h) <;> simp at h)
  intro args v h
  unfold fDivS at h
  split at h
  · rename_i a b
    split at h
    · rename_i hc
      obtain ⟨ha, hb, e0⟩ := hc
      cases h
      refine ⟨by simp, by simp, by simp, ?_⟩
      simp [Try.f78, ha, hb, e0]
    · simp at h
  · simp at h

end Go.X
