/- Signs of the determinant; quotients; diagonals. -/
import Derived.Test.YtfhooccdhmkaoaaJMG
namespace Go.X
open Go.Proofs
attribute [local irreducible] Good
attribute [simp] Try.T_203
attribute [simp] Try.T_183

/-- within, and not at an end -/
def Inner (a : Int) : Prop := -9223372036854775807 < a ∧ a < 9223372036854775807
instance (a : Int) : Decidable (Inner a) := inferInstanceAs (Decidable (_ ∧ _))
theorem clampI_inner {z : Int} (h : Inner (clampI z)) : clampI z = z := by
  by_cases hz : InI z
  · exact clampI_self hz
  · exfalso
    unfold InI at hz
    by_cases h0 : z < 0
    · rw [clampI_lo (by omega)] at h; unfold Inner at h; omega
    · rw [clampI_hi (by omega)] at h; unfold Inner at h; omega
theorem opp_floor {d : Int} (h1 : Inner (clampI (d / 18446744073709551616))) (h2 : Inner (clampI (-d / 18446744073709551616))) :
    clampI (-d / 18446744073709551616) = - clampI (d / 18446744073709551616) ∨ clampI (-d / 18446744073709551616) = - clampI (d / 18446744073709551616) - 1 := by
  rw [clampI_inner h1, clampI_inner h2]
  omega
theorem quoI_cancel {a b c : Int} (hb : b ≠ 0) (hc : c ≠ 0) : quoI (a * c) (b * c) = quoI a b := by
  obtain ⟨h1, h2⟩ := quoI_spec a hb
  refine (quoI_of (a := a * c) (b := b * c) (q := quoI a b) (r := remI a b * c) ?_ ?_).1
  · have e : a * c = (quoI a b * b + remI a b) * c := by rw [← h1]
    rw [e, Int.add_mul, Int.mul_assoc]
  · generalize remI a b = r at *
    rcases Int.lt_or_gt_of_ne hc with hc | hc
    · rcases h2 with ⟨p1, p2, p3⟩ | ⟨p1, p2, p3⟩
      · right
        exact ⟨Int.mul_lt_mul_of_neg_right p3 hc, Int.mul_nonpos_of_nonneg_of_nonpos p2 (Int.le_of_lt hc)⟩
      · left
        exact ⟨Int.mul_nonneg_of_nonpos_of_nonpos p3 (Int.le_of_lt hc), Int.mul_lt_mul_of_neg_right p2 hc⟩
    · rcases h2 with ⟨p1, p2, p3⟩ | ⟨p1, p2, p3⟩
      · left
        exact ⟨Int.mul_nonneg p2 (Int.le_of_lt hc), Int.mul_lt_mul_of_pos_right p3 hc⟩
      · right
        exact ⟨Int.mul_lt_mul_of_pos_right p2 hc, Int.mul_nonpos_of_nonpos_of_nonneg p3 (Int.le_of_lt hc)⟩
@[simp] theorem quoI_nil {b : Int} : quoI 0 b = 0 := by unfold quoI; split <;> simp
@[simp] theorem clampI_nil : clampI 0 = 0 := by decide

noncomputable def inner4S : List AV → PR
  | [.int .i64 a] => .val (.bool (decide (Inner a)))
  | _ => .fail
@[simp] theorem inner4S_val {a : Int} : inner4S [.int .i64 a] = .val (.bool (decide (Inner a))) := rfl
noncomputable def lawMatSignsS : List AV → PR
  | [.agg [.int .i64 a1, .int .i64 a2, .int .i64 a3, .int .i64 b1, .int .i64 b2, .int .i64 b3, .int .i64 c1, .int .i64 c2, .int .i64 c3], .int .i64 w] => open Classical in if InI a1 ∧ InI a2 ∧ InI a3 ∧ InI b1 ∧ InI b2 ∧ InI b3 ∧ InI c1 ∧ InI c2 ∧ InI c3 ∧ InI w then .val (.bool true) else .fail
  | _ => .fail
@[simp] theorem lawMatSignsS_val {a1 a2 a3 b1 b2 b3 c1 c2 c3 w : Int} (h : InI a1 ∧ InI a2 ∧ InI a3 ∧ InI b1 ∧ InI b2 ∧ InI b3 ∧ InI c1 ∧ InI c2 ∧ InI c3 ∧ InI w) : lawMatSignsS [.agg [.int .i64 a1, .int .i64 a2, .int .i64 a3, .int .i64 b1, .int .i64 b2, .int .i64 b3, .int .i64 c1, .int .i64 c2, .int .i64 c3], .int .i64 w] = .val (.bool true) := if_pos h
noncomputable def fupDS : List AV → PR
  | [] => .val (.bool false)
  | _ => .fail
@[simp] theorem fupDS_val : fupDS [] = .val (.bool false) := rfl
theorem fupD_ok : SumOk Try.prog 203 (pureS fupDS) := by
  refine sum_fn (L := fun _ => none) (n := 1) (S := stOf []) drawS Try.T_ok (stOf_ok (by simp)) Try.func203 rfl (by kernel_rfl) (by kernel_rfl) ?_
    (by intro args v h; unfold fupDS at h; split at h <;> (try split at h) <;> simp at h)
  intro args v h
  unfold fupDS at h
  split at h
  · skip
    cases h
    refine ⟨by simp, by simp, by simp, ?_⟩
    simp [Try.f203]
  · simp at h

noncomputable def fquoDS : List AV → PR
  | [.arr .u64 8 f, .arr .u64 8 g] => open Classical in if R8 f ∧ R8 g ∧ sval g ≠ 0 ∧ InW (quoI (sval f) (sval g)) then .val (W (quoI (sval f) (sval g))) else .fail
  | _ => .fail
@[simp] theorem fquoDS_val {f g : Nat → Int} (h : R8 f ∧ R8 g ∧ sval g ≠ 0 ∧ InW (quoI (sval f) (sval g))) : fquoDS [.arr .u64 8 f, .arr .u64 8 g] = .val (W (quoI (sval f) (sval g))) := if_pos h
theorem fquoD_ok : SumOk Try.prog 194 (pureS fquoDS) := by
  refine sum_fn (L := fun i => if i = 3 then some (.quiet 3) else none) (n := 1) (S := stOf [(101, pureS fsumS), (203, pureS fupDS), (74, pureS divS), (97, pureS ofS), (111, pureS signS)]) drawS Try.T_ok (stOf_ok (by simp [fsum_ok, fupD_ok, div_ok, of_ok, sign_ok])) Try.func194 rfl (by kernel_rfl) (by kernel_rfl) ?_
    (by intro args v h; unfold fquoDS at h; split at h <;> (try split at h) <;> simp at h)
  intro args v h
  unfold fquoDS at h
  split at h
  · rename_i f g
    split at h
    · rename_i hc
      obtain ⟨hf, hg, e0, e1⟩ := hc
      cases h
      refine ⟨by simp, by simp, by simp, ?_⟩
      simp [Try.f194, hf, hg, e0, e1, quoV]
    · simp at h
  · simp at h

noncomputable def foverDS : List AV → PR
  | [.int .i64 a, .int .i64 b] => open Classical in if InI a ∧ InI b ∧ b ≠ 0 then .val (.int .i64 (clampI (quoI (a * 4294967296) b))) else .fail
  | _ => .fail
@[simp] theorem foverDS_val {a b : Int} (h : InI a ∧ InI b ∧ b ≠ 0) : foverDS [.int .i64 a, .int .i64 b] = .val (.int .i64 (clampI (quoI (a * 4294967296) b))) := if_pos h
theorem foverD_ok : SumOk Try.prog 181 (pureS foverDS) := by
  refine sum_fn (L := fun _ => none) (n := 1) (S := stOf [(194, pureS fquoDS), (102, pureS frawS), (100, pureS fwithinS), (72, pureS shlS)]) drawS Try.T_ok (stOf_ok (by simp [fquoD_ok, fraw_ok, fwithin_ok, shl_ok])) Try.func181 rfl (by kernel_rfl) (by kernel_rfl) ?_
    (by intro args v h; unfold foverDS at h; split at h <;> (try split at h) <;> simp at h)
  intro args v h
  unfold foverDS at h
  split at h
  · rename_i a b
    split at h
    · rename_i hc
      obtain ⟨ha, hb, e0⟩ := hc
      cases h
      refine ⟨by simp, by simp, by simp, ?_⟩
      have v : Bd 95 (a * 4294967296) := by simpa using (Bd.of ha).shl 32
      have i := v.w (by decide)
      have q := v.quo (by decide) e0
      simp [Try.f181, ha, hb, e0, fitI ha, fitI hb, R8_limb, shlV, fitV, i, sval_limb i, q, sval_limb q]
    · simp at h
  · simp at h

noncomputable def fDivS : List AV → PR
  | [.int .i64 a, .int .i64 b] => open Classical in if InI a ∧ InI b ∧ b ≠ 0 then .val (.int .i64 (clampI (quoI (a * 4294967296) b))) else .fail
  | _ => .fail
@[simp] theorem fDivS_val {a b : Int} (h : InI a ∧ InI b ∧ b ≠ 0) : fDivS [.int .i64 a, .int .i64 b] = .val (.int .i64 (clampI (quoI (a * 4294967296) b))) := if_pos h
theorem fDiv_ok : SumOk Try.prog 152 (pureS fDivS) := by
  refine sum_fn (L := fun _ => none) (n := 1) (S := stOf [(181, pureS foverDS)]) drawS Try.T_ok (stOf_ok (by simp [foverD_ok])) Try.func152 rfl (by kernel_rfl) (by kernel_rfl) ?_
    (by intro args v h; unfold fDivS at h; split at h <;> (try split at h) <;> simp at h)
  intro args v h
  unfold fDivS at h
  split at h
  · rename_i a b
    split at h
    · rename_i hc
      obtain ⟨ha, hb, e0⟩ := hc
      cases h
      refine ⟨by simp, by simp, by simp, ?_⟩
      simp [Try.f152, ha, hb, e0]
    · simp at h
  · simp at h

noncomputable def lawMatDiagS : List AV → PR
  | [.agg [.int .i64 a, .int .i64 b, .int .i64 c], .agg [.int .i64 x, .int .i64 y, .int .i64 z]] => open Classical in if InI a ∧ InI b ∧ InI c ∧ InI x ∧ InI y ∧ InI z then .val (.bool true) else .fail
  | _ => .fail
@[simp] theorem lawMatDiagS_val {a b c x y z : Int} (h : InI a ∧ InI b ∧ InI c ∧ InI x ∧ InI y ∧ InI z) : lawMatDiagS [.agg [.int .i64 a, .int .i64 b, .int .i64 c], .agg [.int .i64 x, .int .i64 y, .int .i64 z]] = .val (.bool true) := if_pos h
end Go.X
