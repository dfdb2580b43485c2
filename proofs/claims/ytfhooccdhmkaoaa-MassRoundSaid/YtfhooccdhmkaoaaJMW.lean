/- Quaternions: units, and a unit by its way back. -/
import Derived.Test.YtfhooccdhmkaoaaJML
namespace Go.X
open Go.Proofs
attribute [local irreducible] Good
theorem Bd_200 {z : Int} (h : 0 ≤ z) (h2 : z ≤ 36893488147419103232) : Bd 66 z := by unfold Bd; omega
theorem cmpI_le {a b : Int} : cmpI a b ≤ 0 ↔ a ≤ b := by
  have := cmpI_pos (a := a) (b := b)
  omega
/-- how near to 1 -/
def NearOne (z w : Int) : Prop := z - 18446744073709551616 ≤ w ∧ 18446744073709551616 - z ≤ w
instance (z w : Int) : Decidable (NearOne z w) := inferInstanceAs (Decidable (_ ∧ _))
theorem small_InI {u : Int} (h : -4294967296 ≤ u ∧ u ≤ 4294967296) : InI u := by unfold InI; omega

noncomputable def sq4sS : Sum := fun args env _ => match args with
  | [.slice b 0 4 _] => match env b with
    | some ⟨[.arr .i64 4 t], _⟩ => open Classical in if InI (t 0) ∧ InI (t 1) ∧ InI (t 2) ∧ InI (t 3) then .val (W (t 0 * t 0 + t 1 * t 1 + t 2 * t 2 + t 3 * t 3)) [] [] else .fail
    | _ => .fail
  | _ => .fail
noncomputable def sq3sS : Sum := fun args env _ => match args with
  | [.slice b 0 3 _] => match env b with
    | some ⟨[.arr .i64 3 t], _⟩ => open Classical in if InI (t 0) ∧ InI (t 1) ∧ InI (t 2) then .val (W (t 0 * t 0 + t 1 * t 1 + t 2 * t 2)) [] [] else .fail
    | _ => .fail
  | _ => .fail
noncomputable def near29S : List AV → PR
  | [.arr .u64 8 f, .int .i64 29] => open Classical in if R8 f ∧ Bd 130 (sval f) then .val (.bool (decide (NearOne (sval f) 34359738368))) else .fail
  | _ => .fail
@[simp] theorem near29S_val {f : Nat → Int} (h : R8 f ∧ Bd 130 (sval f)) : near29S [.arr .u64 8 f, .int .i64 29] = .val (.bool (decide (NearOne (sval f) 34359738368))) := if_pos h
noncomputable def near30S : List AV → PR
  | [.arr .u64 8 f, .int .i64 30] => open Classical in if R8 f ∧ Bd 130 (sval f) then .val (.bool (decide (NearOne (sval f) 17179869184))) else .fail
  | _ => .fail
@[simp] theorem near30S_val {f : Nat → Int} (h : R8 f ∧ Bd 130 (sval f)) : near30S [.arr .u64 8 f, .int .i64 30] = .val (.bool (decide (NearOne (sval f) 17179869184))) := if_pos h
noncomputable def near5S : List AV → PR
  | [.int .i64 a, .int .i64 b] => open Classical in if -2305843009213693952 ≤ a ∧ a ≤ 2305843009213693952 ∧ -2305843009213693952 ≤ b ∧ b ≤ 2305843009213693952 then .val (.bool (decide (a - b ≤ 64 ∧ b - a ≤ 64))) else .fail
  | _ => .fail
@[simp] theorem near5S_val {a b : Int} (h : -2305843009213693952 ≤ a ∧ a ≤ 2305843009213693952 ∧ -2305843009213693952 ≤ b ∧ b ≤ 2305843009213693952) : near5S [.int .i64 a, .int .i64 b] = .val (.bool (decide (a - b ≤ 64 ∧ b - a ≤ 64))) := if_pos h
theorem near5_ok : SumOk Try.prog 77 (pureS near5S) := by
  refine sum_fn (L := fun _ => none) (n := 1) (S := stOf []) drawS Try.T_ok (stOf_ok (by simp)) Try.func77 rfl (by kernel_rfl) (by kernel_rfl) ?_
    (by intro args v h; unfold near5S at h; split at h <;> (try split at h) <;> simp at h)
  intro args v h
  unfold near5S at h
  split at h
  · rename_i a b
    split at h
    · rename_i hc
      obtain ⟨e0, e1, e2, e3⟩ := hc
      cases h
      refine ⟨by simp, by simp, by simp, ?_⟩
      have w1 : IntKind.i64.wrap (a - b) = a - b := wrap_i64_in (by omega) (by omega)
      have w2 : IntKind.i64.wrap (b - a) = b - a := wrap_i64_in (by omega) (by omega)
      by_cases c1 : a - b ≤ 64
      · by_cases c2 : b - a ≤ 64
        · simp [Try.f77, w1, w2, c1, c2]
        · simp [Try.f77, w1, w2, c1, c2]
      · simp [Try.f77, w1, c1]
    · simp at h
  · simp at h

noncomputable def lawUnitaryS : List AV → PR
  | [.agg [.int .i64 a, .int .i64 b, .int .i64 c, .int .i64 d]] => open Classical in if InI a ∧ InI b ∧ InI c ∧ InI d then .val (.bool true) else .fail
  | _ => .fail
@[simp] theorem lawUnitaryS_val {a b c d : Int} (h : InI a ∧ InI b ∧ InI c ∧ InI d) : lawUnitaryS [.agg [.int .i64 a, .int .i64 b, .int .i64 c, .int .i64 d]] = .val (.bool true) := if_pos h
noncomputable def lawUndone5S : List AV → PR
  | [.agg [.int .i64 a, .int .i64 b, .int .i64 c, .int .i64 d]] => open Classical in if InI a ∧ InI b ∧ InI c ∧ InI d then .val (.bool true) else .fail
  | _ => .fail
@[simp] theorem lawUndone5S_val {a b c d : Int} (h : InI a ∧ InI b ∧ InI c ∧ InI d) : lawUndone5S [.agg [.int .i64 a, .int .i64 b, .int .i64 c, .int .i64 d]] = .val (.bool true) := if_pos h
end Go.X
