/- Quaternions: rows and columns of the matrix. -/
import Derived.Test.YtfhooccdhmkaoaaJMW
namespace Go.X
open Go.Proofs
attribute [local irreducible] Good

theorem Turn_small {a b c d : Int} (h : TurnP a b c d) : (-8589934592 ≤ a ∧ a ≤ 8589934592) ∧ (-8589934592 ≤ b ∧ b ≤ 8589934592) ∧ (-8589934592 ≤ c ∧ c ≤ 8589934592) ∧ (-8589934592 ≤ d ∧ d ≤ 8589934592) := by
  have qa := sq_nonneg a
  have qb := sq_nonneg b
  have qc := sq_nonneg c
  have qd := sq_nonneg d
  have one : ∀ {x : Int}, x * x ≤ 73786976294838206464 → -8589934592 ≤ x ∧ x ≤ 8589934592 := by
    intro x hx
    have h2 : -x * -x ≤ 73786976294838206464 := by rw [Int.neg_mul_neg]; exact hx
    have h3 := le_of_sq hx (c := 8589934592) (by decide) (by decide)
    have h4 := le_of_sq h2 (c := 8589934592) (by decide) (by decide)
    omega
  unfold TurnP sq4 at h
  exact ⟨one (by omega), one (by omega), one (by omega), one (by omega)⟩

noncomputable def opp5S : List AV → PR
  | [.agg [.int .i64 a, .int .i64 b, .int .i64 c, .int .i64 d]] => open Classical in if InI a ∧ InI b ∧ InI c ∧ InI d ∧ InI (-a) ∧ InI (-b) ∧ InI (-c) ∧ InI (-d) then .val (.agg [.int .i64 (-a), .int .i64 (-b), .int .i64 (-c), .int .i64 (-d)]) else .fail
  | _ => .fail
@[simp] theorem opp5S_val {a b c d : Int} (h : InI a ∧ InI b ∧ InI c ∧ InI d ∧ InI (-a) ∧ InI (-b) ∧ InI (-c) ∧ InI (-d)) : opp5S [.agg [.int .i64 a, .int .i64 b, .int .i64 c, .int .i64 d]] = .val (.agg [.int .i64 (-a), .int .i64 (-b), .int .i64 (-c), .int .i64 (-d)]) := if_pos h
noncomputable def within5S : List AV → PR
  | [.agg [.int .i64 a, .int .i64 b, .int .i64 c]] => open Classical in if -4294967296 ≤ a ∧ a ≤ 4294967296 ∧ -4294967296 ≤ b ∧ b ≤ 4294967296 ∧ -4294967296 ≤ c ∧ c ≤ 4294967296 then .val (.bool true) else .fail
  | _ => .fail
@[simp] theorem within5S_val {a b c : Int} (h : -4294967296 ≤ a ∧ a ≤ 4294967296 ∧ -4294967296 ≤ b ∧ b ≤ 4294967296 ∧ -4294967296 ≤ c ∧ c ≤ 4294967296) : within5S [.agg [.int .i64 a, .int .i64 b, .int .i64 c]] = .val (.bool true) := if_pos h
noncomputable def lawRows5S : List AV → PR
  | [.agg [.int .i64 a, .int .i64 b, .int .i64 c, .int .i64 d]] => open Classical in if InI a ∧ InI b ∧ InI c ∧ InI d then .val (.bool true) else .fail
  | _ => .fail
@[simp] theorem lawRows5S_val {a b c d : Int} (h : InI a ∧ InI b ∧ InI c ∧ InI d) : lawRows5S [.agg [.int .i64 a, .int .i64 b, .int .i64 c, .int .i64 d]] = .val (.bool true) := if_pos h
end Go.X
