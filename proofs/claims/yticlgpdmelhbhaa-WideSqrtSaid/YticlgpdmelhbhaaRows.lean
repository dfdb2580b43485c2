/-
  No cell of these rows narrows 'for every input' (looked for: loops, veiled, ifaces, maps, wideKeys, modest, calm, conditions, laid).
  DERIVED. THE GIVEN ROWS OF THIS SEAT. 13 by the template 'for every input the law returns true; each argument reads behind the call as it read before'; 0 by the template 'total and deterministic' (their statements: YticlgpdmelhbhaaTotals.lean).
  GIVEN WITH THE SEED: the statements are not yours to turn. If you find one false, say at which input.
  Laid BY PROGRAM, IN A SANDBOX (cutbox-rows.mjs): the forced cells as the released guide's own fill.sh prints them over the translation a03ed126c119c2e8… (all of the seat's roots in one cut). By AI agents, Wed Nov 11 2026. No macro, syntax, notation, axiom, sorry.
-/
import Derived.Test.YticlgpdmelhbhaaChecked
import GoSem.Claim
import GoSem.ClaimJoined
import GoSem.ClaimMapViews
import Derived.JoinedTies
import Derived.KernelRfl
namespace Go.Proofs.Yticlgpdmelhbhaa
/- THE CELL 'sum', in the pinned program and in every row, IS THE sha256 OF THE DUMP (.gsa) THAT YticlgpdmelhbhaaProg.lean LOADS. Nothing in Lean hashes anything: it is a label: what it is worth is what the hold of that sum in a sandbox is worth. -/
noncomputable def Try.pinned : Pinned := { name := "yticlgpdmelhbhaa", sum := "a03ed126c119c2e8a712cc27d07b1e6529ca5978ae420fec52337689c185203f", checked := Try.checked }
namespace Rows
def none {H : Type} : Left H := { results := [], args := [] }

/-- 'ninepinlaw01.WideMul': WHATEVER THE INPUT: true; the input reads as it did. -/
def wideMulSpec : ChangeSpec := { name := "wideMul", fn := fun _ => fun
  | [d1, d2] => { results := [.lit (.bool true)], args := [d1, d2] }
  | _ => none }
def wideMulRow : OpenClaim := { program := "yticlgpdmelhbhaa", sum := "a03ed126c119c2e8a712cc27d07b1e6529ca5978ae420fec52337689c185203f", func := "ninepin/ninepinlaw01.WideMul", spec := "wideMul", inPlace := ["math/bits.Add64"], unfollowed := true, recurses := true, apart := false }
def WideMulSaid : Prop := wideMulRow.holds Try.pinned (OpenSpec.ofChange wideMulSpec)

/-- ITS FALSE NEIGHBOUR: 'it returns false'. Refute it at one input. -/
def wideMulWrong : ChangeSpec := { name := "wideMul", fn := fun _ => fun
  | [d1, d2] => { results := [.lit (.bool false)], args := [d1, d2] }
  | _ => none }
def WideMulWrongFalsely : Prop := wideMulRow.holds Try.pinned (OpenSpec.ofChange wideMulWrong)

/-- 'ninepinlaw01.WideDiv': WHATEVER THE INPUT: true; the input reads as it did. -/
def wideDivSpec : ChangeSpec := { name := "wideDiv", fn := fun _ => fun
  | [d1, d2] => { results := [.lit (.bool true)], args := [d1, d2] }
  | _ => none }
def wideDivRow : OpenClaim := { program := "yticlgpdmelhbhaa", sum := "a03ed126c119c2e8a712cc27d07b1e6529ca5978ae420fec52337689c185203f", func := "ninepin/ninepinlaw01.WideDiv", spec := "wideDiv", inPlace := ["math/bits.Add64"], unfollowed := true, recurses := true, apart := false }
def WideDivSaid : Prop := wideDivRow.holds Try.pinned (OpenSpec.ofChange wideDivSpec)

/-- ITS FALSE NEIGHBOUR: 'it returns false'. Refute it at one input. -/
def wideDivWrong : ChangeSpec := { name := "wideDiv", fn := fun _ => fun
  | [d1, d2] => { results := [.lit (.bool false)], args := [d1, d2] }
  | _ => none }
def WideDivWrongFalsely : Prop := wideDivRow.holds Try.pinned (OpenSpec.ofChange wideDivWrong)

/-- 'ninepinlaw01.WideSqrt': WHATEVER THE INPUT: true; the input reads as it did. -/
def wideSqrtSpec : ChangeSpec := { name := "wideSqrt", fn := fun _ => fun
  | [d] => { results := [.lit (.bool true)], args := [d] }
  | _ => none }
def wideSqrtRow : OpenClaim := { program := "yticlgpdmelhbhaa", sum := "a03ed126c119c2e8a712cc27d07b1e6529ca5978ae420fec52337689c185203f", func := "ninepin/ninepinlaw01.WideSqrt", spec := "wideSqrt", inPlace := ["math/bits.Add64"], unfollowed := true, recurses := true, apart := false }
def WideSqrtSaid : Prop := wideSqrtRow.holds Try.pinned (OpenSpec.ofChange wideSqrtSpec)

/-- ITS FALSE NEIGHBOUR: 'it returns false'. Refute it at one input. -/
def wideSqrtWrong : ChangeSpec := { name := "wideSqrt", fn := fun _ => fun
  | [d] => { results := [.lit (.bool false)], args := [d] }
  | _ => none }
def WideSqrtWrongFalsely : Prop := wideSqrtRow.holds Try.pinned (OpenSpec.ofChange wideSqrtWrong)

/-- 'ninepinlaw01.WideSmall': WHATEVER THE INPUT: true; the input reads as it did. -/
def wideSmallSpec : ChangeSpec := { name := "wideSmall", fn := fun _ => fun
  | [d1, d2, d3] => { results := [.lit (.bool true)], args := [d1, d2, d3] }
  | _ => none }
def wideSmallRow : OpenClaim := { program := "yticlgpdmelhbhaa", sum := "a03ed126c119c2e8a712cc27d07b1e6529ca5978ae420fec52337689c185203f", func := "ninepin/ninepinlaw01.WideSmall", spec := "wideSmall", inPlace := ["math/bits.Add64"], unfollowed := true, recurses := true, apart := false }
def WideSmallSaid : Prop := wideSmallRow.holds Try.pinned (OpenSpec.ofChange wideSmallSpec)

/-- ITS FALSE NEIGHBOUR: 'it returns false'. Refute it at one input. -/
def wideSmallWrong : ChangeSpec := { name := "wideSmall", fn := fun _ => fun
  | [d1, d2, d3] => { results := [.lit (.bool false)], args := [d1, d2, d3] }
  | _ => none }
def WideSmallWrongFalsely : Prop := wideSmallRow.holds Try.pinned (OpenSpec.ofChange wideSmallWrong)

/-- 'ninepinlaw01.WideRing': WHATEVER THE INPUT: true; the input reads as it did. -/
def wideRingSpec : ChangeSpec := { name := "wideRing", fn := fun _ => fun
  | [d1, d2, d3] => { results := [.lit (.bool true)], args := [d1, d2, d3] }
  | _ => none }
def wideRingRow : OpenClaim := { program := "yticlgpdmelhbhaa", sum := "a03ed126c119c2e8a712cc27d07b1e6529ca5978ae420fec52337689c185203f", func := "ninepin/ninepinlaw01.WideRing", spec := "wideRing", inPlace := ["math/bits.Add64"], unfollowed := true, recurses := true, apart := false }
def WideRingSaid : Prop := wideRingRow.holds Try.pinned (OpenSpec.ofChange wideRingSpec)

/-- ITS FALSE NEIGHBOUR: 'it returns false'. Refute it at one input. -/
def wideRingWrong : ChangeSpec := { name := "wideRing", fn := fun _ => fun
  | [d1, d2, d3] => { results := [.lit (.bool false)], args := [d1, d2, d3] }
  | _ => none }
def WideRingWrongFalsely : Prop := wideRingRow.holds Try.pinned (OpenSpec.ofChange wideRingWrong)

/-- 'ninepinlaw01.WideRoot': WHATEVER THE INPUT: true; the input reads as it did. -/
def wideRootSpec : ChangeSpec := { name := "wideRoot", fn := fun _ => fun
  | [d] => { results := [.lit (.bool true)], args := [d] }
  | _ => none }
def wideRootRow : OpenClaim := { program := "yticlgpdmelhbhaa", sum := "a03ed126c119c2e8a712cc27d07b1e6529ca5978ae420fec52337689c185203f", func := "ninepin/ninepinlaw01.WideRoot", spec := "wideRoot", inPlace := ["math/bits.Add64"], unfollowed := true, recurses := true, apart := false }
def WideRootSaid : Prop := wideRootRow.holds Try.pinned (OpenSpec.ofChange wideRootSpec)

/-- ITS FALSE NEIGHBOUR: 'it returns false'. Refute it at one input. -/
def wideRootWrong : ChangeSpec := { name := "wideRoot", fn := fun _ => fun
  | [d] => { results := [.lit (.bool false)], args := [d] }
  | _ => none }
def WideRootWrongFalsely : Prop := wideRootRow.holds Try.pinned (OpenSpec.ofChange wideRootWrong)

/-- 'ninepinlaw01.WideSums': WHATEVER THE INPUT: true; the input reads as it did. -/
def wideSumsSpec : ChangeSpec := { name := "wideSums", fn := fun _ => fun
  | [d1, d2] => { results := [.lit (.bool true)], args := [d1, d2] }
  | _ => none }
def wideSumsRow : OpenClaim := { program := "yticlgpdmelhbhaa", sum := "a03ed126c119c2e8a712cc27d07b1e6529ca5978ae420fec52337689c185203f", func := "ninepin/ninepinlaw01.WideSums", spec := "wideSums", inPlace := ["math/bits.Add64"], unfollowed := true, recurses := true, apart := false }
def WideSumsSaid : Prop := wideSumsRow.holds Try.pinned (OpenSpec.ofChange wideSumsSpec)

/-- ITS FALSE NEIGHBOUR: 'it returns false'. Refute it at one input. -/
def wideSumsWrong : ChangeSpec := { name := "wideSums", fn := fun _ => fun
  | [d1, d2] => { results := [.lit (.bool false)], args := [d1, d2] }
  | _ => none }
def WideSumsWrongFalsely : Prop := wideSumsRow.holds Try.pinned (OpenSpec.ofChange wideSumsWrong)

/-- 'ninepinlaw01.WideOrder': WHATEVER THE INPUT: true; the input reads as it did. -/
def wideOrderSpec : ChangeSpec := { name := "wideOrder", fn := fun _ => fun
  | [d1, d2, d3, d4, d5] => { results := [.lit (.bool true)], args := [d1, d2, d3, d4, d5] }
  | _ => none }
def wideOrderRow : OpenClaim := { program := "yticlgpdmelhbhaa", sum := "a03ed126c119c2e8a712cc27d07b1e6529ca5978ae420fec52337689c185203f", func := "ninepin/ninepinlaw01.WideOrder", spec := "wideOrder", inPlace := ["math/bits.Add64"], unfollowed := true, recurses := true, apart := false }
def WideOrderSaid : Prop := wideOrderRow.holds Try.pinned (OpenSpec.ofChange wideOrderSpec)

/-- ITS FALSE NEIGHBOUR: 'it returns false'. Refute it at one input. -/
def wideOrderWrong : ChangeSpec := { name := "wideOrder", fn := fun _ => fun
  | [d1, d2, d3, d4, d5] => { results := [.lit (.bool false)], args := [d1, d2, d3, d4, d5] }
  | _ => none }
def WideOrderWrongFalsely : Prop := wideOrderRow.holds Try.pinned (OpenSpec.ofChange wideOrderWrong)

/-- 'ninepinlaw01.WideShift': WHATEVER THE INPUT: true; the input reads as it did. -/
def wideShiftSpec : ChangeSpec := { name := "wideShift", fn := fun _ => fun
  | [d1, d2] => { results := [.lit (.bool true)], args := [d1, d2] }
  | _ => none }
def wideShiftRow : OpenClaim := { program := "yticlgpdmelhbhaa", sum := "a03ed126c119c2e8a712cc27d07b1e6529ca5978ae420fec52337689c185203f", func := "ninepin/ninepinlaw01.WideShift", spec := "wideShift", inPlace := ["math/bits.Add64"], unfollowed := true, recurses := true, apart := false }
def WideShiftSaid : Prop := wideShiftRow.holds Try.pinned (OpenSpec.ofChange wideShiftSpec)

/-- ITS FALSE NEIGHBOUR: 'it returns false'. Refute it at one input. -/
def wideShiftWrong : ChangeSpec := { name := "wideShift", fn := fun _ => fun
  | [d1, d2] => { results := [.lit (.bool false)], args := [d1, d2] }
  | _ => none }
def WideShiftWrongFalsely : Prop := wideShiftRow.holds Try.pinned (OpenSpec.ofChange wideShiftWrong)

/-- 'ninepinlaw01.WideTwice': WHATEVER THE INPUT: true; the input reads as it did. -/
def wideTwiceSpec : ChangeSpec := { name := "wideTwice", fn := fun _ => fun
  | [d1, d2, d3] => { results := [.lit (.bool true)], args := [d1, d2, d3] }
  | _ => none }
def wideTwiceRow : OpenClaim := { program := "yticlgpdmelhbhaa", sum := "a03ed126c119c2e8a712cc27d07b1e6529ca5978ae420fec52337689c185203f", func := "ninepin/ninepinlaw01.WideTwice", spec := "wideTwice", inPlace := ["math/bits.Add64"], unfollowed := true, recurses := true, apart := false }
def WideTwiceSaid : Prop := wideTwiceRow.holds Try.pinned (OpenSpec.ofChange wideTwiceSpec)

/-- ITS FALSE NEIGHBOUR: 'it returns false'. Refute it at one input. -/
def wideTwiceWrong : ChangeSpec := { name := "wideTwice", fn := fun _ => fun
  | [d1, d2, d3] => { results := [.lit (.bool false)], args := [d1, d2, d3] }
  | _ => none }
def WideTwiceWrongFalsely : Prop := wideTwiceRow.holds Try.pinned (OpenSpec.ofChange wideTwiceWrong)

/-- 'ninepinlaw01.WideLeft': WHATEVER THE INPUT: true; the input reads as it did. -/
def wideLeftSpec : ChangeSpec := { name := "wideLeft", fn := fun _ => fun
  | [d1, d2, d3] => { results := [.lit (.bool true)], args := [d1, d2, d3] }
  | _ => none }
def wideLeftRow : OpenClaim := { program := "yticlgpdmelhbhaa", sum := "a03ed126c119c2e8a712cc27d07b1e6529ca5978ae420fec52337689c185203f", func := "ninepin/ninepinlaw01.WideLeft", spec := "wideLeft", inPlace := ["math/bits.Add64"], unfollowed := true, recurses := true, apart := false }
def WideLeftSaid : Prop := wideLeftRow.holds Try.pinned (OpenSpec.ofChange wideLeftSpec)

/-- ITS FALSE NEIGHBOUR: 'it returns false'. Refute it at one input. -/
def wideLeftWrong : ChangeSpec := { name := "wideLeft", fn := fun _ => fun
  | [d1, d2, d3] => { results := [.lit (.bool false)], args := [d1, d2, d3] }
  | _ => none }
def WideLeftWrongFalsely : Prop := wideLeftRow.holds Try.pinned (OpenSpec.ofChange wideLeftWrong)

/-- 'ninepinlaw01.WideBits': WHATEVER THE INPUT: true; the input reads as it did. -/
def wideBitsSpec : ChangeSpec := { name := "wideBits", fn := fun _ => fun
  | [d1, d2] => { results := [.lit (.bool true)], args := [d1, d2] }
  | _ => none }
def wideBitsRow : OpenClaim := { program := "yticlgpdmelhbhaa", sum := "a03ed126c119c2e8a712cc27d07b1e6529ca5978ae420fec52337689c185203f", func := "ninepin/ninepinlaw01.WideBits", spec := "wideBits", inPlace := ["math/bits.Add64"], unfollowed := true, recurses := true, apart := false }
def WideBitsSaid : Prop := wideBitsRow.holds Try.pinned (OpenSpec.ofChange wideBitsSpec)

/-- ITS FALSE NEIGHBOUR: 'it returns false'. Refute it at one input. -/
def wideBitsWrong : ChangeSpec := { name := "wideBits", fn := fun _ => fun
  | [d1, d2] => { results := [.lit (.bool false)], args := [d1, d2] }
  | _ => none }
def WideBitsWrongFalsely : Prop := wideBitsRow.holds Try.pinned (OpenSpec.ofChange wideBitsWrong)

/-- 'ninepinlaw01.WideUndone': WHATEVER THE INPUT: true; the input reads as it did. -/
def wideUndoneSpec : ChangeSpec := { name := "wideUndone", fn := fun _ => fun
  | [d1, d2, d3] => { results := [.lit (.bool true)], args := [d1, d2, d3] }
  | _ => none }
def wideUndoneRow : OpenClaim := { program := "yticlgpdmelhbhaa", sum := "a03ed126c119c2e8a712cc27d07b1e6529ca5978ae420fec52337689c185203f", func := "ninepin/ninepinlaw01.WideUndone", spec := "wideUndone", inPlace := ["math/bits.Add64"], unfollowed := true, recurses := true, apart := false }
def WideUndoneSaid : Prop := wideUndoneRow.holds Try.pinned (OpenSpec.ofChange wideUndoneSpec)

/-- ITS FALSE NEIGHBOUR: 'it returns false'. Refute it at one input. -/
def wideUndoneWrong : ChangeSpec := { name := "wideUndone", fn := fun _ => fun
  | [d1, d2, d3] => { results := [.lit (.bool false)], args := [d1, d2, d3] }
  | _ => none }
def WideUndoneWrongFalsely : Prop := wideUndoneRow.holds Try.pinned (OpenSpec.ofChange wideUndoneWrong)

/- THE SECOND FORM. 'bulk': how many values and letters a reading holds, each counted each time it is reached (what is shared counts as often as it is met; a slice's spare places count too). A statement '..UptoSaid' is the law's where the arguments, and the package variables that the reading takes, are together of bulk at most 1048576: NARROWER than '..Said'. Prove '..Said' where nothing that the law and all that it calls make is longer than what came in: it says more and counts as full. Else prove '..UptoSaid'. A law counts once. -/
mutual
def uptoBulk {H : Type} : DataW H → Nat
  | .lit (.string bytes) => bytes.length + 1
  | .lit _ => 1
  | .nil => 1
  | .ptr d => uptoBulk d + 1
  | .slice elems spare => uptoBulkAll elems + uptoBulkAll spare + 1
  | .agg parts => uptoBulkAll parts + 1
  | .iface _ d => uptoBulk d + 1
  | .map entries => uptoBulkEntries entries + 1
  | .held _ => 1
def uptoBulkAll {H : Type} : List (DataW H) → Nat
  | [] => 0
  | d :: r => uptoBulk d + uptoBulkAll r
def uptoBulkEntries {H : Type} : List (Lit × DataW H) → Nat
  | [] => 0
  | x :: r => uptoBulkEntry x + uptoBulkEntries r
def uptoBulkEntry {H : Type} : Lit × DataW H → Nat
  | (.string bytes, d) => bytes.length + uptoBulk d + 1
  | (_, d) => uptoBulk d + 1
 end
def uptoSmall : (H : Type) → List (DataW H) → Bool := fun _ ds => decide (uptoBulkAll ds ≤ 1048576)
def OpenSpec.upto (s : _root_.Go.ChangeSpec) : _root_.Go.OpenSpec := { _root_.Go.OpenSpec.ofChange s with cond := some uptoSmall }

/-- 'ninepinlaw01.WideMul', WHERE WHAT IT READS IS OF BULK AT MOST 1048576: true; the input reads as it did. -/
def wideMulUptoRow : OpenClaim := { program := "yticlgpdmelhbhaa", sum := "a03ed126c119c2e8a712cc27d07b1e6529ca5978ae420fec52337689c185203f", func := "ninepin/ninepinlaw01.WideMul", spec := "wideMul", inPlace := ["math/bits.Add64"], unfollowed := true, recurses := true, apart := false, narrowed := true }
def WideMulUptoSaid : Prop := wideMulUptoRow.holds Try.pinned (OpenSpec.upto wideMulSpec)

/-- 'ninepinlaw01.WideDiv', WHERE WHAT IT READS IS OF BULK AT MOST 1048576: true; the input reads as it did. -/
def wideDivUptoRow : OpenClaim := { program := "yticlgpdmelhbhaa", sum := "a03ed126c119c2e8a712cc27d07b1e6529ca5978ae420fec52337689c185203f", func := "ninepin/ninepinlaw01.WideDiv", spec := "wideDiv", inPlace := ["math/bits.Add64"], unfollowed := true, recurses := true, apart := false, narrowed := true }
def WideDivUptoSaid : Prop := wideDivUptoRow.holds Try.pinned (OpenSpec.upto wideDivSpec)

/-- 'ninepinlaw01.WideSqrt', WHERE WHAT IT READS IS OF BULK AT MOST 1048576: true; the input reads as it did. -/
def wideSqrtUptoRow : OpenClaim := { program := "yticlgpdmelhbhaa", sum := "a03ed126c119c2e8a712cc27d07b1e6529ca5978ae420fec52337689c185203f", func := "ninepin/ninepinlaw01.WideSqrt", spec := "wideSqrt", inPlace := ["math/bits.Add64"], unfollowed := true, recurses := true, apart := false, narrowed := true }
def WideSqrtUptoSaid : Prop := wideSqrtUptoRow.holds Try.pinned (OpenSpec.upto wideSqrtSpec)

/-- 'ninepinlaw01.WideSmall', WHERE WHAT IT READS IS OF BULK AT MOST 1048576: true; the input reads as it did. -/
def wideSmallUptoRow : OpenClaim := { program := "yticlgpdmelhbhaa", sum := "a03ed126c119c2e8a712cc27d07b1e6529ca5978ae420fec52337689c185203f", func := "ninepin/ninepinlaw01.WideSmall", spec := "wideSmall", inPlace := ["math/bits.Add64"], unfollowed := true, recurses := true, apart := false, narrowed := true }
def WideSmallUptoSaid : Prop := wideSmallUptoRow.holds Try.pinned (OpenSpec.upto wideSmallSpec)

/-- 'ninepinlaw01.WideRing', WHERE WHAT IT READS IS OF BULK AT MOST 1048576: true; the input reads as it did. -/
def wideRingUptoRow : OpenClaim := { program := "yticlgpdmelhbhaa", sum := "a03ed126c119c2e8a712cc27d07b1e6529ca5978ae420fec52337689c185203f", func := "ninepin/ninepinlaw01.WideRing", spec := "wideRing", inPlace := ["math/bits.Add64"], unfollowed := true, recurses := true, apart := false, narrowed := true }
def WideRingUptoSaid : Prop := wideRingUptoRow.holds Try.pinned (OpenSpec.upto wideRingSpec)

/-- 'ninepinlaw01.WideRoot', WHERE WHAT IT READS IS OF BULK AT MOST 1048576: true; the input reads as it did. -/
def wideRootUptoRow : OpenClaim := { program := "yticlgpdmelhbhaa", sum := "a03ed126c119c2e8a712cc27d07b1e6529ca5978ae420fec52337689c185203f", func := "ninepin/ninepinlaw01.WideRoot", spec := "wideRoot", inPlace := ["math/bits.Add64"], unfollowed := true, recurses := true, apart := false, narrowed := true }
def WideRootUptoSaid : Prop := wideRootUptoRow.holds Try.pinned (OpenSpec.upto wideRootSpec)

/-- 'ninepinlaw01.WideSums', WHERE WHAT IT READS IS OF BULK AT MOST 1048576: true; the input reads as it did. -/
def wideSumsUptoRow : OpenClaim := { program := "yticlgpdmelhbhaa", sum := "a03ed126c119c2e8a712cc27d07b1e6529ca5978ae420fec52337689c185203f", func := "ninepin/ninepinlaw01.WideSums", spec := "wideSums", inPlace := ["math/bits.Add64"], unfollowed := true, recurses := true, apart := false, narrowed := true }
def WideSumsUptoSaid : Prop := wideSumsUptoRow.holds Try.pinned (OpenSpec.upto wideSumsSpec)

/-- 'ninepinlaw01.WideOrder', WHERE WHAT IT READS IS OF BULK AT MOST 1048576: true; the input reads as it did. -/
def wideOrderUptoRow : OpenClaim := { program := "yticlgpdmelhbhaa", sum := "a03ed126c119c2e8a712cc27d07b1e6529ca5978ae420fec52337689c185203f", func := "ninepin/ninepinlaw01.WideOrder", spec := "wideOrder", inPlace := ["math/bits.Add64"], unfollowed := true, recurses := true, apart := false, narrowed := true }
def WideOrderUptoSaid : Prop := wideOrderUptoRow.holds Try.pinned (OpenSpec.upto wideOrderSpec)

/-- 'ninepinlaw01.WideShift', WHERE WHAT IT READS IS OF BULK AT MOST 1048576: true; the input reads as it did. -/
def wideShiftUptoRow : OpenClaim := { program := "yticlgpdmelhbhaa", sum := "a03ed126c119c2e8a712cc27d07b1e6529ca5978ae420fec52337689c185203f", func := "ninepin/ninepinlaw01.WideShift", spec := "wideShift", inPlace := ["math/bits.Add64"], unfollowed := true, recurses := true, apart := false, narrowed := true }
def WideShiftUptoSaid : Prop := wideShiftUptoRow.holds Try.pinned (OpenSpec.upto wideShiftSpec)

/-- 'ninepinlaw01.WideTwice', WHERE WHAT IT READS IS OF BULK AT MOST 1048576: true; the input reads as it did. -/
def wideTwiceUptoRow : OpenClaim := { program := "yticlgpdmelhbhaa", sum := "a03ed126c119c2e8a712cc27d07b1e6529ca5978ae420fec52337689c185203f", func := "ninepin/ninepinlaw01.WideTwice", spec := "wideTwice", inPlace := ["math/bits.Add64"], unfollowed := true, recurses := true, apart := false, narrowed := true }
def WideTwiceUptoSaid : Prop := wideTwiceUptoRow.holds Try.pinned (OpenSpec.upto wideTwiceSpec)

/-- 'ninepinlaw01.WideLeft', WHERE WHAT IT READS IS OF BULK AT MOST 1048576: true; the input reads as it did. -/
def wideLeftUptoRow : OpenClaim := { program := "yticlgpdmelhbhaa", sum := "a03ed126c119c2e8a712cc27d07b1e6529ca5978ae420fec52337689c185203f", func := "ninepin/ninepinlaw01.WideLeft", spec := "wideLeft", inPlace := ["math/bits.Add64"], unfollowed := true, recurses := true, apart := false, narrowed := true }
def WideLeftUptoSaid : Prop := wideLeftUptoRow.holds Try.pinned (OpenSpec.upto wideLeftSpec)

/-- 'ninepinlaw01.WideBits', WHERE WHAT IT READS IS OF BULK AT MOST 1048576: true; the input reads as it did. -/
def wideBitsUptoRow : OpenClaim := { program := "yticlgpdmelhbhaa", sum := "a03ed126c119c2e8a712cc27d07b1e6529ca5978ae420fec52337689c185203f", func := "ninepin/ninepinlaw01.WideBits", spec := "wideBits", inPlace := ["math/bits.Add64"], unfollowed := true, recurses := true, apart := false, narrowed := true }
def WideBitsUptoSaid : Prop := wideBitsUptoRow.holds Try.pinned (OpenSpec.upto wideBitsSpec)

/-- 'ninepinlaw01.WideUndone', WHERE WHAT IT READS IS OF BULK AT MOST 1048576: true; the input reads as it did. -/
def wideUndoneUptoRow : OpenClaim := { program := "yticlgpdmelhbhaa", sum := "a03ed126c119c2e8a712cc27d07b1e6529ca5978ae420fec52337689c185203f", func := "ninepin/ninepinlaw01.WideUndone", spec := "wideUndone", inPlace := ["math/bits.Add64"], unfollowed := true, recurses := true, apart := false, narrowed := true }
def WideUndoneUptoSaid : Prop := wideUndoneUptoRow.holds Try.pinned (OpenSpec.upto wideUndoneSpec)

end Rows
end Go.Proofs.Yticlgpdmelhbhaa
