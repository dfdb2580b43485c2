/- Any shape is accepted or refused, its core is the document's, and the shape stays. -/
import Derived.Test.YtgejbdalmjopiaaJUP
import Derived.Test.YtgejbdalmjopiaaGL
namespace Go.X
open Go.Proofs
attribute [local irreducible] Good

theorem EqL_same {n : Nat} {f : Nat → Int} : EqL n n f f ↔ True := ⟨fun _ => trivial, fun _ => ⟨rfl, fun _ _ => rfl⟩⟩
/-- a list that has just been made -/
theorem listE_made {env : Mem} {p n k : Nat} : listE env (.slice p 0 n (n + k)) = match rowB 3 .i64 (env p) 0 n with
    | some (n', o, F) => if n' = n ∧ n ≤ n + k then some (n, fun j => F (o + j)) else none
    | none => none := rfl
theorem listE_empty {env : Mem} {p : Nat} : listE env (.slice p 0 0 0) = match rowB 3 .i64 (env p) 0 0 with
    | some (n', o, F) => if n' = 0 ∧ 0 ≤ 0 then some (0, fun j => F (o + j)) else none
    | none => none := rfl
theorem row_room {n k : Nat} : n * 3 ≤ (n + k) * 3 := by omega
theorem cut_at {n : Nat} {f : Nat → Int} {j : Nat} (h : j < n * 3) : cutL (n * 3) f j = f j := if_pos h
theorem ShEq_cut {kd r x y z : Int} {n : Nat} {f g : Nat → Int} (h : ∀ j, j < n * 3 → f j = g j) : ShEq kd r x y z kd r x y z n n f g = True := eq_true ⟨rfl, rfl, ⟨rfl, rfl, rfl⟩, rfl, h⟩
theorem set_same {m : List Blk} {p : Nat} {B : Blk} (h : m[p]? = some B) : m.set p B = m := by
  obtain ⟨h1, h2⟩ := List.getElem?_eq_some_iff.1 h
  rw [← h2]; simp
theorem set_mod {m mi : List Blk} {p : Nat} {B : Blk} {g : Blk → Blk} (h : m = mi.set p B) : m.modify p g = mi.set p (g B) := by
  subst h
  refine List.ext_getElem? fun j => ?_
  rw [List.getElem?_modify, List.getElem?_set, List.getElem?_set]
  by_cases e : p = j <;> simp [e]
/-- a block of a list whose numbers are whatever they are -/
abbrev GB (n k : Nat) (G : Nat → Int) : Blk := ⟨[.arr .i64 ((n + k) * 3) G], 24⟩
end Go.X
