/-
  No cell of these rows narrows 'for every input' (looked for: loops, veiled, ifaces, maps, wideKeys, modest, calm, conditions, laid).
  DERIVED. THE GIVEN ROWS OF THIS SEAT. 12 by the template 'for every input the law returns true; each argument reads behind the call as it read before'; 0 by the template 'total and deterministic' (their statements: YtgfpllfimpgooaaGreatTotals.lean).
  GIVEN WITH THE SEED: the statements are not yours to turn. If you find one false, say at which input.
  Laid BY PROGRAM, IN A SANDBOX (cutbox-rows.mjs): the forced cells as the released guide's own fill.sh prints them over the translation 32f47701f2c851a4… (all of the seat's roots in one cut). By AI agents, Wed Nov 11 2026. No macro, syntax, notation, axiom, sorry.
-/
import Derived.Test.YtgfpllfimpgooaaGreatChecked
import GoSem.Claim
import GoSem.ClaimJoined
import GoSem.ClaimMapViews
import Derived.JoinedTies
import Derived.KernelRfl
namespace Go.Proofs.YtgfpllfimpgooaaGreat
/- THE CELL 'sum', in the pinned program and in every row, IS THE sha256 OF THE DUMP (.gsa) THAT YtgfpllfimpgooaaGreatProg.lean LOADS. Nothing in Lean hashes anything: it is a label: what it is worth is what the hold of that sum in a sandbox is worth. -/
noncomputable def Tryz.pinned : Pinned := { name := "ytgfpllfimpgooaagreat", sum := "32f47701f2c851a4e66fd90ae2f4ce775100caf56005a1ac335cbaf4f9a85314", checked := Tryz.checked }
namespace Rows
def none {H : Type} : Left H := { results := [], args := [] }

/-- 'ninepinlaw11.PoseStill': WHATEVER THE INPUT: true; the input reads as it did. -/
def poseStillSpec : ChangeSpec := { name := "poseStill", fn := fun _ => fun
  | [d1, d2, d3] => { results := [.lit (.bool true)], args := [d1, d2, d3] }
  | _ => none }
def poseStillRow : OpenClaim := { program := "ytgfpllfimpgooaagreat", sum := "32f47701f2c851a4e66fd90ae2f4ce775100caf56005a1ac335cbaf4f9a85314", func := "ninepin/ninepinlaw11.PoseStill", spec := "poseStill", inPlace := ["math/bits.Add64"], unfollowed := true, recurses := true, apart := false }
def PoseStillSaid : Prop := poseStillRow.holds Tryz.pinned (OpenSpec.ofChange poseStillSpec)

/-- ITS FALSE NEIGHBOUR: 'it returns false'. Refute it at one input. -/
def poseStillWrong : ChangeSpec := { name := "poseStill", fn := fun _ => fun
  | [d1, d2, d3] => { results := [.lit (.bool false)], args := [d1, d2, d3] }
  | _ => none }
def PoseStillWrongFalsely : Prop := poseStillRow.holds Tryz.pinned (OpenSpec.ofChange poseStillWrong)

/-- 'ninepinlaw24.MoveInert': WHATEVER THE INPUT: true; the input reads as it did. -/
def moveInertSpec : ChangeSpec := { name := "moveInert", fn := fun _ => fun
  | [d1, d2] => { results := [.lit (.bool true)], args := [d1, d2] }
  | _ => none }
def moveInertRow : OpenClaim := { program := "ytgfpllfimpgooaagreat", sum := "32f47701f2c851a4e66fd90ae2f4ce775100caf56005a1ac335cbaf4f9a85314", func := "ninepin/ninepinlaw24.MoveInert", spec := "moveInert", inPlace := ["math/bits.Add64"], unfollowed := true, recurses := true, apart := false }
def MoveInertSaid : Prop := moveInertRow.holds Tryz.pinned (OpenSpec.ofChange moveInertSpec)

/-- ITS FALSE NEIGHBOUR: 'it returns false'. Refute it at one input. -/
def moveInertWrong : ChangeSpec := { name := "moveInert", fn := fun _ => fun
  | [d1, d2] => { results := [.lit (.bool false)], args := [d1, d2] }
  | _ => none }
def MoveInertWrongFalsely : Prop := moveInertRow.holds Tryz.pinned (OpenSpec.ofChange moveInertWrong)

/-- 'ninepinlaw09.ShapeCore': WHATEVER THE INPUT: true; the input reads as it did. -/
def shapeCoreSpec : ChangeSpec := { name := "shapeCore", fn := fun _ => fun
  | [d] => { results := [.lit (.bool true)], args := [d] }
  | _ => none }
def shapeCoreRow : OpenClaim := { program := "ytgfpllfimpgooaagreat", sum := "32f47701f2c851a4e66fd90ae2f4ce775100caf56005a1ac335cbaf4f9a85314", func := "ninepin/ninepinlaw09.ShapeCore", spec := "shapeCore", inPlace := ["math/bits.Add64"], unfollowed := true, recurses := true, apart := false }
def ShapeCoreSaid : Prop := shapeCoreRow.holds Tryz.pinned (OpenSpec.ofChange shapeCoreSpec)

/-- ITS FALSE NEIGHBOUR: 'it returns false'. Refute it at one input. -/
def shapeCoreWrong : ChangeSpec := { name := "shapeCore", fn := fun _ => fun
  | [d] => { results := [.lit (.bool false)], args := [d] }
  | _ => none }
def ShapeCoreWrongFalsely : Prop := shapeCoreRow.holds Tryz.pinned (OpenSpec.ofChange shapeCoreWrong)

/-- 'ninepinlaw09.ShapeHalf': WHATEVER THE INPUT: true; the input reads as it did. -/
def shapeHalfSpec : ChangeSpec := { name := "shapeHalf", fn := fun _ => fun
  | [d] => { results := [.lit (.bool true)], args := [d] }
  | _ => none }
def shapeHalfRow : OpenClaim := { program := "ytgfpllfimpgooaagreat", sum := "32f47701f2c851a4e66fd90ae2f4ce775100caf56005a1ac335cbaf4f9a85314", func := "ninepin/ninepinlaw09.ShapeHalf", spec := "shapeHalf", inPlace := ["math/bits.Add64"], unfollowed := true, recurses := true, apart := false }
def ShapeHalfSaid : Prop := shapeHalfRow.holds Tryz.pinned (OpenSpec.ofChange shapeHalfSpec)

/-- ITS FALSE NEIGHBOUR: 'it returns false'. Refute it at one input. -/
def shapeHalfWrong : ChangeSpec := { name := "shapeHalf", fn := fun _ => fun
  | [d] => { results := [.lit (.bool false)], args := [d] }
  | _ => none }
def ShapeHalfWrongFalsely : Prop := shapeHalfRow.holds Tryz.pinned (OpenSpec.ofChange shapeHalfWrong)

/-- 'ninepinlaw11.PoseMove': WHATEVER THE INPUT: true; the input reads as it did. -/
def poseMoveSpec : ChangeSpec := { name := "poseMove", fn := fun _ => fun
  | [d1, d2, d3, d4] => { results := [.lit (.bool true)], args := [d1, d2, d3, d4] }
  | _ => none }
def poseMoveRow : OpenClaim := { program := "ytgfpllfimpgooaagreat", sum := "32f47701f2c851a4e66fd90ae2f4ce775100caf56005a1ac335cbaf4f9a85314", func := "ninepin/ninepinlaw11.PoseMove", spec := "poseMove", inPlace := ["math/bits.Add64"], unfollowed := true, recurses := true, apart := false }
def PoseMoveSaid : Prop := poseMoveRow.holds Tryz.pinned (OpenSpec.ofChange poseMoveSpec)

/-- ITS FALSE NEIGHBOUR: 'it returns false'. Refute it at one input. -/
def poseMoveWrong : ChangeSpec := { name := "poseMove", fn := fun _ => fun
  | [d1, d2, d3, d4] => { results := [.lit (.bool false)], args := [d1, d2, d3, d4] }
  | _ => none }
def PoseMoveWrongFalsely : Prop := poseMoveRow.holds Tryz.pinned (OpenSpec.ofChange poseMoveWrong)

/-- 'ninepinlaw10.MassOf': WHATEVER THE INPUT: true; the input reads as it did. -/
def massOfSpec : ChangeSpec := { name := "massOf", fn := fun _ => fun
  | [d1, d2] => { results := [.lit (.bool true)], args := [d1, d2] }
  | _ => none }
def massOfRow : OpenClaim := { program := "ytgfpllfimpgooaagreat", sum := "32f47701f2c851a4e66fd90ae2f4ce775100caf56005a1ac335cbaf4f9a85314", func := "ninepin/ninepinlaw10.MassOf", spec := "massOf", inPlace := ["math/bits.Add64"], unfollowed := true, recurses := true, apart := false }
def MassOfSaid : Prop := massOfRow.holds Tryz.pinned (OpenSpec.ofChange massOfSpec)

/-- ITS FALSE NEIGHBOUR: 'it returns false'. Refute it at one input. -/
def massOfWrong : ChangeSpec := { name := "massOf", fn := fun _ => fun
  | [d1, d2] => { results := [.lit (.bool false)], args := [d1, d2] }
  | _ => none }
def MassOfWrongFalsely : Prop := massOfRow.holds Tryz.pinned (OpenSpec.ofChange massOfWrong)

/-- 'ninepinlaw24.MoveTwice': WHATEVER THE INPUT: true; the input reads as it did. -/
def moveTwiceSpec : ChangeSpec := { name := "moveTwice", fn := fun _ => fun
  | [d1, d2, d3] => { results := [.lit (.bool true)], args := [d1, d2, d3] }
  | _ => none }
def moveTwiceRow : OpenClaim := { program := "ytgfpllfimpgooaagreat", sum := "32f47701f2c851a4e66fd90ae2f4ce775100caf56005a1ac335cbaf4f9a85314", func := "ninepin/ninepinlaw24.MoveTwice", spec := "moveTwice", inPlace := ["math/bits.Add64"], unfollowed := true, recurses := true, apart := false }
def MoveTwiceSaid : Prop := moveTwiceRow.holds Tryz.pinned (OpenSpec.ofChange moveTwiceSpec)

/-- ITS FALSE NEIGHBOUR: 'it returns false'. Refute it at one input. -/
def moveTwiceWrong : ChangeSpec := { name := "moveTwice", fn := fun _ => fun
  | [d1, d2, d3] => { results := [.lit (.bool false)], args := [d1, d2, d3] }
  | _ => none }
def MoveTwiceWrongFalsely : Prop := moveTwiceRow.holds Tryz.pinned (OpenSpec.ofChange moveTwiceWrong)

/-- 'ninepinlaw24.MoveFall': WHATEVER THE INPUT: true; the input reads as it did. -/
def moveFallSpec : ChangeSpec := { name := "moveFall", fn := fun _ => fun
  | [d1, d2, d3, d4] => { results := [.lit (.bool true)], args := [d1, d2, d3, d4] }
  | _ => none }
def moveFallRow : OpenClaim := { program := "ytgfpllfimpgooaagreat", sum := "32f47701f2c851a4e66fd90ae2f4ce775100caf56005a1ac335cbaf4f9a85314", func := "ninepin/ninepinlaw24.MoveFall", spec := "moveFall", inPlace := ["math/bits.Add64"], unfollowed := true, recurses := true, apart := false }
def MoveFallSaid : Prop := moveFallRow.holds Tryz.pinned (OpenSpec.ofChange moveFallSpec)

/-- ITS FALSE NEIGHBOUR: 'it returns false'. Refute it at one input. -/
def moveFallWrong : ChangeSpec := { name := "moveFall", fn := fun _ => fun
  | [d1, d2, d3, d4] => { results := [.lit (.bool false)], args := [d1, d2, d3, d4] }
  | _ => none }
def MoveFallWrongFalsely : Prop := moveFallRow.holds Tryz.pinned (OpenSpec.ofChange moveFallWrong)

/-- 'ninepinlaw24.MoveStays': WHATEVER THE INPUT: true; the input reads as it did. -/
def moveStaysSpec : ChangeSpec := { name := "moveStays", fn := fun _ => fun
  | [d1, d2, d3] => { results := [.lit (.bool true)], args := [d1, d2, d3] }
  | _ => none }
def moveStaysRow : OpenClaim := { program := "ytgfpllfimpgooaagreat", sum := "32f47701f2c851a4e66fd90ae2f4ce775100caf56005a1ac335cbaf4f9a85314", func := "ninepin/ninepinlaw24.MoveStays", spec := "moveStays", inPlace := ["math/bits.Add64"], unfollowed := true, recurses := true, apart := false }
def MoveStaysSaid : Prop := moveStaysRow.holds Tryz.pinned (OpenSpec.ofChange moveStaysSpec)

/-- ITS FALSE NEIGHBOUR: 'it returns false'. Refute it at one input. -/
def moveStaysWrong : ChangeSpec := { name := "moveStays", fn := fun _ => fun
  | [d1, d2, d3] => { results := [.lit (.bool false)], args := [d1, d2, d3] }
  | _ => none }
def MoveStaysWrongFalsely : Prop := moveStaysRow.holds Tryz.pinned (OpenSpec.ofChange moveStaysWrong)

/-- 'ninepinlaw24.MoveWith': WHATEVER THE INPUT: true; the input reads as it did. -/
def moveWithSpec : ChangeSpec := { name := "moveWith", fn := fun _ => fun
  | [d1, d2, d3, d4] => { results := [.lit (.bool true)], args := [d1, d2, d3, d4] }
  | _ => none }
def moveWithRow : OpenClaim := { program := "ytgfpllfimpgooaagreat", sum := "32f47701f2c851a4e66fd90ae2f4ce775100caf56005a1ac335cbaf4f9a85314", func := "ninepin/ninepinlaw24.MoveWith", spec := "moveWith", inPlace := ["math/bits.Add64"], unfollowed := true, recurses := true, apart := false }
def MoveWithSaid : Prop := moveWithRow.holds Tryz.pinned (OpenSpec.ofChange moveWithSpec)

/-- ITS FALSE NEIGHBOUR: 'it returns false'. Refute it at one input. -/
def moveWithWrong : ChangeSpec := { name := "moveWith", fn := fun _ => fun
  | [d1, d2, d3, d4] => { results := [.lit (.bool false)], args := [d1, d2, d3, d4] }
  | _ => none }
def MoveWithWrongFalsely : Prop := moveWithRow.holds Tryz.pinned (OpenSpec.ofChange moveWithWrong)

/-- 'ninepinlaw11.PosePoints': WHATEVER THE INPUT: true; the input reads as it did. -/
def posePointsSpec : ChangeSpec := { name := "posePoints", fn := fun _ => fun
  | [d1, d2] => { results := [.lit (.bool true)], args := [d1, d2] }
  | _ => none }
def posePointsRow : OpenClaim := { program := "ytgfpllfimpgooaagreat", sum := "32f47701f2c851a4e66fd90ae2f4ce775100caf56005a1ac335cbaf4f9a85314", func := "ninepin/ninepinlaw11.PosePoints", spec := "posePoints", inPlace := ["math/bits.Add64"], unfollowed := true, recurses := true, apart := false }
def PosePointsSaid : Prop := posePointsRow.holds Tryz.pinned (OpenSpec.ofChange posePointsSpec)

/-- ITS FALSE NEIGHBOUR: 'it returns false'. Refute it at one input. -/
def posePointsWrong : ChangeSpec := { name := "posePoints", fn := fun _ => fun
  | [d1, d2] => { results := [.lit (.bool false)], args := [d1, d2] }
  | _ => none }
def PosePointsWrongFalsely : Prop := posePointsRow.holds Tryz.pinned (OpenSpec.ofChange posePointsWrong)

/-- 'ninepinlaw11.PoseBehind': WHATEVER THE INPUT: true; the input reads as it did. -/
def poseBehindSpec : ChangeSpec := { name := "poseBehind", fn := fun _ => fun
  | [d1, d2, d3, d4, d5] => { results := [.lit (.bool true)], args := [d1, d2, d3, d4, d5] }
  | _ => none }
def poseBehindRow : OpenClaim := { program := "ytgfpllfimpgooaagreat", sum := "32f47701f2c851a4e66fd90ae2f4ce775100caf56005a1ac335cbaf4f9a85314", func := "ninepin/ninepinlaw11.PoseBehind", spec := "poseBehind", inPlace := ["math/bits.Add64"], unfollowed := true, recurses := true, apart := false }
def PoseBehindSaid : Prop := poseBehindRow.holds Tryz.pinned (OpenSpec.ofChange poseBehindSpec)

/-- ITS FALSE NEIGHBOUR: 'it returns false'. Refute it at one input. -/
def poseBehindWrong : ChangeSpec := { name := "poseBehind", fn := fun _ => fun
  | [d1, d2, d3, d4, d5] => { results := [.lit (.bool false)], args := [d1, d2, d3, d4, d5] }
  | _ => none }
def PoseBehindWrongFalsely : Prop := poseBehindRow.holds Tryz.pinned (OpenSpec.ofChange poseBehindWrong)

/- THE SECOND FORM. 'bulk': how many values and letters a reading holds, each counted each time it is reached (what is shared counts as often as it is met; a slice's spare places count too). A statement '..UptoSaid' is the law's where the arguments, and the package variables that the reading takes, are together of bulk at most 1048576: NARROWER than '..Said'. Prove '..Said' where nothing that the law and all that it calls make is longer than what came in: it says more and counts as full. Else prove '..UptoSaid'. A law counts once. -/
mutual
def uptoBulk {H : Type} : DataW H → Nat
  | .lit (.string bytes) => bytes.length + 1
  | .lit _ => 1
  | .nil => 1
  | .ptr d => uptoBulk d + 1
  | .slice elems spare => uptoBulkAll elems + uptoBulkAll spare + 1
  | .agg parts => uptoBulkAll parts + 1
  | .iface _ d => uptoBulk d + 1
  | .map entries => uptoBulkEntries entries + 1
  | .held _ => 1
def uptoBulkAll {H : Type} : List (DataW H) → Nat
  | [] => 0
  | d :: r => uptoBulk d + uptoBulkAll r
def uptoBulkEntries {H : Type} : List (Lit × DataW H) → Nat
  | [] => 0
  | x :: r => uptoBulkEntry x + uptoBulkEntries r
def uptoBulkEntry {H : Type} : Lit × DataW H → Nat
  | (.string bytes, d) => bytes.length + uptoBulk d + 1
  | (_, d) => uptoBulk d + 1
 end
def uptoSmall : (H : Type) → List (DataW H) → Bool := fun _ ds => decide (uptoBulkAll ds ≤ 1048576)
def OpenSpec.upto (s : _root_.Go.ChangeSpec) : _root_.Go.OpenSpec := { _root_.Go.OpenSpec.ofChange s with cond := some uptoSmall }

/-- 'ninepinlaw11.PoseStill', WHERE WHAT IT READS IS OF BULK AT MOST 1048576: true; the input reads as it did. -/
def poseStillUptoRow : OpenClaim := { program := "ytgfpllfimpgooaagreat", sum := "32f47701f2c851a4e66fd90ae2f4ce775100caf56005a1ac335cbaf4f9a85314", func := "ninepin/ninepinlaw11.PoseStill", spec := "poseStill", inPlace := ["math/bits.Add64"], unfollowed := true, recurses := true, apart := false, narrowed := true }
def PoseStillUptoSaid : Prop := poseStillUptoRow.holds Tryz.pinned (OpenSpec.upto poseStillSpec)

/-- 'ninepinlaw24.MoveInert', WHERE WHAT IT READS IS OF BULK AT MOST 1048576: true; the input reads as it did. -/
def moveInertUptoRow : OpenClaim := { program := "ytgfpllfimpgooaagreat", sum := "32f47701f2c851a4e66fd90ae2f4ce775100caf56005a1ac335cbaf4f9a85314", func := "ninepin/ninepinlaw24.MoveInert", spec := "moveInert", inPlace := ["math/bits.Add64"], unfollowed := true, recurses := true, apart := false, narrowed := true }
def MoveInertUptoSaid : Prop := moveInertUptoRow.holds Tryz.pinned (OpenSpec.upto moveInertSpec)

/-- 'ninepinlaw09.ShapeCore', WHERE WHAT IT READS IS OF BULK AT MOST 1048576: true; the input reads as it did. -/
def shapeCoreUptoRow : OpenClaim := { program := "ytgfpllfimpgooaagreat", sum := "32f47701f2c851a4e66fd90ae2f4ce775100caf56005a1ac335cbaf4f9a85314", func := "ninepin/ninepinlaw09.ShapeCore", spec := "shapeCore", inPlace := ["math/bits.Add64"], unfollowed := true, recurses := true, apart := false, narrowed := true }
def ShapeCoreUptoSaid : Prop := shapeCoreUptoRow.holds Tryz.pinned (OpenSpec.upto shapeCoreSpec)

/-- 'ninepinlaw09.ShapeHalf', WHERE WHAT IT READS IS OF BULK AT MOST 1048576: true; the input reads as it did. -/
def shapeHalfUptoRow : OpenClaim := { program := "ytgfpllfimpgooaagreat", sum := "32f47701f2c851a4e66fd90ae2f4ce775100caf56005a1ac335cbaf4f9a85314", func := "ninepin/ninepinlaw09.ShapeHalf", spec := "shapeHalf", inPlace := ["math/bits.Add64"], unfollowed := true, recurses := true, apart := false, narrowed := true }
def ShapeHalfUptoSaid : Prop := shapeHalfUptoRow.holds Tryz.pinned (OpenSpec.upto shapeHalfSpec)

/-- 'ninepinlaw11.PoseMove', WHERE WHAT IT READS IS OF BULK AT MOST 1048576: true; the input reads as it did. -/
def poseMoveUptoRow : OpenClaim := { program := "ytgfpllfimpgooaagreat", sum := "32f47701f2c851a4e66fd90ae2f4ce775100caf56005a1ac335cbaf4f9a85314", func := "ninepin/ninepinlaw11.PoseMove", spec := "poseMove", inPlace := ["math/bits.Add64"], unfollowed := true, recurses := true, apart := false, narrowed := true }
def PoseMoveUptoSaid : Prop := poseMoveUptoRow.holds Tryz.pinned (OpenSpec.upto poseMoveSpec)

/-- 'ninepinlaw10.MassOf', WHERE WHAT IT READS IS OF BULK AT MOST 1048576: true; the input reads as it did. -/
def massOfUptoRow : OpenClaim := { program := "ytgfpllfimpgooaagreat", sum := "32f47701f2c851a4e66fd90ae2f4ce775100caf56005a1ac335cbaf4f9a85314", func := "ninepin/ninepinlaw10.MassOf", spec := "massOf", inPlace := ["math/bits.Add64"], unfollowed := true, recurses := true, apart := false, narrowed := true }
def MassOfUptoSaid : Prop := massOfUptoRow.holds Tryz.pinned (OpenSpec.upto massOfSpec)

/-- 'ninepinlaw24.MoveTwice', WHERE WHAT IT READS IS OF BULK AT MOST 1048576: true; the input reads as it did. -/
def moveTwiceUptoRow : OpenClaim := { program := "ytgfpllfimpgooaagreat", sum := "32f47701f2c851a4e66fd90ae2f4ce775100caf56005a1ac335cbaf4f9a85314", func := "ninepin/ninepinlaw24.MoveTwice", spec := "moveTwice", inPlace := ["math/bits.Add64"], unfollowed := true, recurses := true, apart := false, narrowed := true }
def MoveTwiceUptoSaid : Prop := moveTwiceUptoRow.holds Tryz.pinned (OpenSpec.upto moveTwiceSpec)

/-- 'ninepinlaw24.MoveFall', WHERE WHAT IT READS IS OF BULK AT MOST 1048576: true; the input reads as it did. -/
def moveFallUptoRow : OpenClaim := { program := "ytgfpllfimpgooaagreat", sum := "32f47701f2c851a4e66fd90ae2f4ce775100caf56005a1ac335cbaf4f9a85314", func := "ninepin/ninepinlaw24.MoveFall", spec := "moveFall", inPlace := ["math/bits.Add64"], unfollowed := true, recurses := true, apart := false, narrowed := true }
def MoveFallUptoSaid : Prop := moveFallUptoRow.holds Tryz.pinned (OpenSpec.upto moveFallSpec)

/-- 'ninepinlaw24.MoveStays', WHERE WHAT IT READS IS OF BULK AT MOST 1048576: true; the input reads as it did. -/
def moveStaysUptoRow : OpenClaim := { program := "ytgfpllfimpgooaagreat", sum := "32f47701f2c851a4e66fd90ae2f4ce775100caf56005a1ac335cbaf4f9a85314", func := "ninepin/ninepinlaw24.MoveStays", spec := "moveStays", inPlace := ["math/bits.Add64"], unfollowed := true, recurses := true, apart := false, narrowed := true }
def MoveStaysUptoSaid : Prop := moveStaysUptoRow.holds Tryz.pinned (OpenSpec.upto moveStaysSpec)

/-- 'ninepinlaw24.MoveWith', WHERE WHAT IT READS IS OF BULK AT MOST 1048576: true; the input reads as it did. -/
def moveWithUptoRow : OpenClaim := { program := "ytgfpllfimpgooaagreat", sum := "32f47701f2c851a4e66fd90ae2f4ce775100caf56005a1ac335cbaf4f9a85314", func := "ninepin/ninepinlaw24.MoveWith", spec := "moveWith", inPlace := ["math/bits.Add64"], unfollowed := true, recurses := true, apart := false, narrowed := true }
def MoveWithUptoSaid : Prop := moveWithUptoRow.holds Tryz.pinned (OpenSpec.upto moveWithSpec)

/-- 'ninepinlaw11.PosePoints', WHERE WHAT IT READS IS OF BULK AT MOST 1048576: true; the input reads as it did. -/
def posePointsUptoRow : OpenClaim := { program := "ytgfpllfimpgooaagreat", sum := "32f47701f2c851a4e66fd90ae2f4ce775100caf56005a1ac335cbaf4f9a85314", func := "ninepin/ninepinlaw11.PosePoints", spec := "posePoints", inPlace := ["math/bits.Add64"], unfollowed := true, recurses := true, apart := false, narrowed := true }
def PosePointsUptoSaid : Prop := posePointsUptoRow.holds Tryz.pinned (OpenSpec.upto posePointsSpec)

/-- 'ninepinlaw11.PoseBehind', WHERE WHAT IT READS IS OF BULK AT MOST 1048576: true; the input reads as it did. -/
def poseBehindUptoRow : OpenClaim := { program := "ytgfpllfimpgooaagreat", sum := "32f47701f2c851a4e66fd90ae2f4ce775100caf56005a1ac335cbaf4f9a85314", func := "ninepin/ninepinlaw11.PoseBehind", spec := "poseBehind", inPlace := ["math/bits.Add64"], unfollowed := true, recurses := true, apart := false, narrowed := true }
def PoseBehindUptoSaid : Prop := poseBehindUptoRow.holds Tryz.pinned (OpenSpec.upto poseBehindSpec)

end Rows
end Go.Proofs.YtgfpllfimpgooaaGreat
