/- A body without speed and pull stays: what is asked. -/
import Derived.Test.YtgejbdalmjopiaaGreatJTL
namespace Go.X
open Go.Proofs
attribute [local irreducible] Good
noncomputable def lawStays24ST : List (FuncId × Sum) := [(11, boCkS), (15, fallS), (18, goS), (21, withS), (13, boSameS), (23, pureS qUnitS), (8, pureS awake24S)]
noncomputable def lawStays24Body : Code := match Tryz.f6.body with | some c => c | none => .skip
def lawStays24G (L : Nat → Option DM) (k : Nat) (args : List AV) (m : List Blk) : Prop := Good (exec Tryz.T (stOf lawStays24ST) L 1 lawStays24Body (initS args Tryz.f6.ntmps m)) (Ends Tryz.T Tryz.f6.results.toList (fun v m' => Eqv v (.bool true) ∧ refs v = [] ∧ v ≠ .undef ∧ k ≤ m'.length ∧ ∀ i, i < k → m'[i]? = m[i]?) fun _ _ => False)
end Go.X
