/-
  No cell of these rows narrows 'for every input' (looked for: loops, veiled, ifaces, maps, wideKeys, modest, calm, conditions, laid).
  DERIVED. THE GIVEN ROWS OF THIS SEAT. 5 by the template 'for every input the law returns true; each argument reads behind the call as it read before'; 0 by the template 'total and deterministic' (their statements: YtgejbdalmjopiaaTotals.lean).
  GIVEN WITH THE SEED: the statements are not yours to turn. If you find one false, say at which input.
  Laid BY PROGRAM, IN A SANDBOX (cutbox-rows.mjs): the forced cells as the released guide's own fill.sh prints them over the translation 8bd7925e4b455bc3… (all of the seat's roots in one cut). By AI agents, Wed Nov 11 2026. No macro, syntax, notation, axiom, sorry.
-/
import Derived.Test.YtgejbdalmjopiaaChecked
import GoSem.Claim
import GoSem.ClaimJoined
import GoSem.ClaimMapViews
import Derived.JoinedTies
import Derived.KernelRfl
namespace Go.Proofs.Ytgejbdalmjopiaa
/- THE CELL 'sum', in the pinned program and in every row, IS THE sha256 OF THE DUMP (.gsa) THAT YtgejbdalmjopiaaProg.lean LOADS. Nothing in Lean hashes anything: it is a label: what it is worth is what the hold of that sum in a sandbox is worth. -/
noncomputable def Try.pinned : Pinned := { name := "ytgejbdalmjopiaa", sum := "8bd7925e4b455bc36aa8db6b4c38e7808aaa705ff849737b6387009686b81e41", checked := Try.checked }
namespace Rows
def none {H : Type} : Left H := { results := [], args := [] }

/-- 'ninepinlaw09.ShapeWithin': WHATEVER THE INPUT: true; the input reads as it did. -/
def shapeWithinSpec : ChangeSpec := { name := "shapeWithin", fn := fun _ => fun
  | [d] => { results := [.lit (.bool true)], args := [d] }
  | _ => none }
def shapeWithinRow : OpenClaim := { program := "ytgejbdalmjopiaa", sum := "8bd7925e4b455bc36aa8db6b4c38e7808aaa705ff849737b6387009686b81e41", func := "ninepin/ninepinlaw09.ShapeWithin", spec := "shapeWithin", inPlace := ["math/bits.Add64"], unfollowed := true, recurses := true, apart := false }
def ShapeWithinSaid : Prop := shapeWithinRow.holds Try.pinned (OpenSpec.ofChange shapeWithinSpec)

/-- ITS FALSE NEIGHBOUR: 'it returns false'. Refute it at one input. -/
def shapeWithinWrong : ChangeSpec := { name := "shapeWithin", fn := fun _ => fun
  | [d] => { results := [.lit (.bool false)], args := [d] }
  | _ => none }
def ShapeWithinWrongFalsely : Prop := shapeWithinRow.holds Try.pinned (OpenSpec.ofChange shapeWithinWrong)

/-- 'ninepinlaw09.ShapeTurned': WHATEVER THE INPUT: true; the input reads as it did. -/
def shapeTurnedSpec : ChangeSpec := { name := "shapeTurned", fn := fun _ => fun
  | [d1, d2, d3] => { results := [.lit (.bool true)], args := [d1, d2, d3] }
  | _ => none }
def shapeTurnedRow : OpenClaim := { program := "ytgejbdalmjopiaa", sum := "8bd7925e4b455bc36aa8db6b4c38e7808aaa705ff849737b6387009686b81e41", func := "ninepin/ninepinlaw09.ShapeTurned", spec := "shapeTurned", inPlace := ["math/bits.Add64"], unfollowed := true, recurses := true, apart := false }
def ShapeTurnedSaid : Prop := shapeTurnedRow.holds Try.pinned (OpenSpec.ofChange shapeTurnedSpec)

/-- ITS FALSE NEIGHBOUR: 'it returns false'. Refute it at one input. -/
def shapeTurnedWrong : ChangeSpec := { name := "shapeTurned", fn := fun _ => fun
  | [d1, d2, d3] => { results := [.lit (.bool false)], args := [d1, d2, d3] }
  | _ => none }
def ShapeTurnedWrongFalsely : Prop := shapeTurnedRow.holds Try.pinned (OpenSpec.ofChange shapeTurnedWrong)

/-- 'ninepinlaw09.ShapeHalves': WHATEVER THE INPUT: true; the input reads as it did. -/
def shapeHalvesSpec : ChangeSpec := { name := "shapeHalves", fn := fun _ => fun
  | [d1, d2] => { results := [.lit (.bool true)], args := [d1, d2] }
  | _ => none }
def shapeHalvesRow : OpenClaim := { program := "ytgejbdalmjopiaa", sum := "8bd7925e4b455bc36aa8db6b4c38e7808aaa705ff849737b6387009686b81e41", func := "ninepin/ninepinlaw09.ShapeHalves", spec := "shapeHalves", inPlace := ["math/bits.Add64"], unfollowed := true, recurses := true, apart := false }
def ShapeHalvesSaid : Prop := shapeHalvesRow.holds Try.pinned (OpenSpec.ofChange shapeHalvesSpec)

/-- ITS FALSE NEIGHBOUR: 'it returns false'. Refute it at one input. -/
def shapeHalvesWrong : ChangeSpec := { name := "shapeHalves", fn := fun _ => fun
  | [d1, d2] => { results := [.lit (.bool false)], args := [d1, d2] }
  | _ => none }
def ShapeHalvesWrongFalsely : Prop := shapeHalvesRow.holds Try.pinned (OpenSpec.ofChange shapeHalvesWrong)

/-- 'ninepinlaw09.ShapeSame': WHATEVER THE INPUT: true; the input reads as it did. -/
def shapeSameSpec : ChangeSpec := { name := "shapeSame", fn := fun _ => fun
  | [d1, d2] => { results := [.lit (.bool true)], args := [d1, d2] }
  | _ => none }
def shapeSameRow : OpenClaim := { program := "ytgejbdalmjopiaa", sum := "8bd7925e4b455bc36aa8db6b4c38e7808aaa705ff849737b6387009686b81e41", func := "ninepin/ninepinlaw09.ShapeSame", spec := "shapeSame", inPlace := ["math/bits.Add64"], unfollowed := true, recurses := true, apart := false }
def ShapeSameSaid : Prop := shapeSameRow.holds Try.pinned (OpenSpec.ofChange shapeSameSpec)

/-- ITS FALSE NEIGHBOUR: 'it returns false'. Refute it at one input. -/
def shapeSameWrong : ChangeSpec := { name := "shapeSame", fn := fun _ => fun
  | [d1, d2] => { results := [.lit (.bool false)], args := [d1, d2] }
  | _ => none }
def ShapeSameWrongFalsely : Prop := shapeSameRow.holds Try.pinned (OpenSpec.ofChange shapeSameWrong)

/-- 'ninepinlaw10.MassSides': WHATEVER THE INPUT: true; the input reads as it did. -/
def massSidesSpec : ChangeSpec := { name := "massSides", fn := fun _ => fun
  | [d1, d2, d3] => { results := [.lit (.bool true)], args := [d1, d2, d3] }
  | _ => none }
def massSidesRow : OpenClaim := { program := "ytgejbdalmjopiaa", sum := "8bd7925e4b455bc36aa8db6b4c38e7808aaa705ff849737b6387009686b81e41", func := "ninepin/ninepinlaw10.MassSides", spec := "massSides", inPlace := ["math/bits.Add64"], unfollowed := true, recurses := true, apart := false }
def MassSidesSaid : Prop := massSidesRow.holds Try.pinned (OpenSpec.ofChange massSidesSpec)

/-- ITS FALSE NEIGHBOUR: 'it returns false'. Refute it at one input. -/
def massSidesWrong : ChangeSpec := { name := "massSides", fn := fun _ => fun
  | [d1, d2, d3] => { results := [.lit (.bool false)], args := [d1, d2, d3] }
  | _ => none }
def MassSidesWrongFalsely : Prop := massSidesRow.holds Try.pinned (OpenSpec.ofChange massSidesWrong)

/- THE SECOND FORM. 'bulk': how many values and letters a reading holds, each counted each time it is reached (what is shared counts as often as it is met; a slice's spare places count too). A statement '..UptoSaid' is the law's where the arguments, and the package variables that the reading takes, are together of bulk at most 1048576: NARROWER than '..Said'. Prove '..Said' where nothing that the law and all that it calls make is longer than what came in: it says more and counts as full. Else prove '..UptoSaid'. A law counts once. -/
mutual
def uptoBulk {H : Type} : DataW H → Nat
  | .lit (.string bytes) => bytes.length + 1
  | .lit _ => 1
  | .nil => 1
  | .ptr d => uptoBulk d + 1
  | .slice elems spare => uptoBulkAll elems + uptoBulkAll spare + 1
  | .agg parts => uptoBulkAll parts + 1
  | .iface _ d => uptoBulk d + 1
  | .map entries => uptoBulkEntries entries + 1
  | .held _ => 1
def uptoBulkAll {H : Type} : List (DataW H) → Nat
  | [] => 0
  | d :: r => uptoBulk d + uptoBulkAll r
def uptoBulkEntries {H : Type} : List (Lit × DataW H) → Nat
  | [] => 0
  | x :: r => uptoBulkEntry x + uptoBulkEntries r
def uptoBulkEntry {H : Type} : Lit × DataW H → Nat
  | (.string bytes, d) => bytes.length + uptoBulk d + 1
  | (_, d) => uptoBulk d + 1
 end
def uptoSmall : (H : Type) → List (DataW H) → Bool := fun _ ds => decide (uptoBulkAll ds ≤ 1048576)
def OpenSpec.upto (s : _root_.Go.ChangeSpec) : _root_.Go.OpenSpec := { _root_.Go.OpenSpec.ofChange s with cond := some uptoSmall }

/-- 'ninepinlaw09.ShapeWithin', WHERE WHAT IT READS IS OF BULK AT MOST 1048576: true; the input reads as it did. -/
def shapeWithinUptoRow : OpenClaim := { program := "ytgejbdalmjopiaa", sum := "8bd7925e4b455bc36aa8db6b4c38e7808aaa705ff849737b6387009686b81e41", func := "ninepin/ninepinlaw09.ShapeWithin", spec := "shapeWithin", inPlace := ["math/bits.Add64"], unfollowed := true, recurses := true, apart := false, narrowed := true }
def ShapeWithinUptoSaid : Prop := shapeWithinUptoRow.holds Try.pinned (OpenSpec.upto shapeWithinSpec)

/-- 'ninepinlaw09.ShapeTurned', WHERE WHAT IT READS IS OF BULK AT MOST 1048576: true; the input reads as it did. -/
def shapeTurnedUptoRow : OpenClaim := { program := "ytgejbdalmjopiaa", sum := "8bd7925e4b455bc36aa8db6b4c38e7808aaa705ff849737b6387009686b81e41", func := "ninepin/ninepinlaw09.ShapeTurned", spec := "shapeTurned", inPlace := ["math/bits.Add64"], unfollowed := true, recurses := true, apart := false, narrowed := true }
def ShapeTurnedUptoSaid : Prop := shapeTurnedUptoRow.holds Try.pinned (OpenSpec.upto shapeTurnedSpec)

/-- 'ninepinlaw09.ShapeHalves', WHERE WHAT IT READS IS OF BULK AT MOST 1048576: true; the input reads as it did. -/
def shapeHalvesUptoRow : OpenClaim := { program := "ytgejbdalmjopiaa", sum := "8bd7925e4b455bc36aa8db6b4c38e7808aaa705ff849737b6387009686b81e41", func := "ninepin/ninepinlaw09.ShapeHalves", spec := "shapeHalves", inPlace := ["math/bits.Add64"], unfollowed := true, recurses := true, apart := false, narrowed := true }
def ShapeHalvesUptoSaid : Prop := shapeHalvesUptoRow.holds Try.pinned (OpenSpec.upto shapeHalvesSpec)

/-- 'ninepinlaw09.ShapeSame', WHERE WHAT IT READS IS OF BULK AT MOST 1048576: true; the input reads as it did. -/
def shapeSameUptoRow : OpenClaim := { program := "ytgejbdalmjopiaa", sum := "8bd7925e4b455bc36aa8db6b4c38e7808aaa705ff849737b6387009686b81e41", func := "ninepin/ninepinlaw09.ShapeSame", spec := "shapeSame", inPlace := ["math/bits.Add64"], unfollowed := true, recurses := true, apart := false, narrowed := true }
def ShapeSameUptoSaid : Prop := shapeSameUptoRow.holds Try.pinned (OpenSpec.upto shapeSameSpec)

/-- 'ninepinlaw10.MassSides', WHERE WHAT IT READS IS OF BULK AT MOST 1048576: true; the input reads as it did. -/
def massSidesUptoRow : OpenClaim := { program := "ytgejbdalmjopiaa", sum := "8bd7925e4b455bc36aa8db6b4c38e7808aaa705ff849737b6387009686b81e41", func := "ninepin/ninepinlaw10.MassSides", spec := "massSides", inPlace := ["math/bits.Add64"], unfollowed := true, recurses := true, apart := false, narrowed := true }
def MassSidesUptoSaid : Prop := massSidesUptoRow.holds Try.pinned (OpenSpec.upto massSidesSpec)

end Rows
end Go.Proofs.Ytgejbdalmjopiaa
