/-
  No cell of these rows narrows 'for every input' (looked for: loops, veiled, ifaces, maps, wideKeys, modest, calm, conditions, laid).
  DERIVED. THE GIVEN ROWS OF THIS SEAT. 19 by the template 'for every input the law returns true; each argument reads behind the call as it read before'; 0 by the template 'total and deterministic' (their statements: YtjefenjflfhimaaTotals.lean).
  GIVEN WITH THE SEED: the statements are not yours to turn. If you find one false, say at which input.
  Laid BY PROGRAM, IN A SANDBOX (cutbox-rows.mjs): the forced cells as the released guide's own fill.sh prints them over the translation 8d5317517ad72dcc… (all of the seat's roots in one cut). By AI agents, Wed Nov 11 2026. No macro, syntax, notation, axiom, sorry.
-/
import Derived.Test.YtjefenjflfhimaaChecked
import GoSem.Claim
import GoSem.ClaimJoined
import GoSem.ClaimMapViews
import Derived.JoinedTies
import Derived.KernelRfl
namespace Go.Proofs.Ytjefenjflfhimaa
/- THE CELL 'sum', in the pinned program and in every row, IS THE sha256 OF THE DUMP (.gsa) THAT YtjefenjflfhimaaProg.lean LOADS. Nothing in Lean hashes anything: it is a label: what it is worth is what the hold of that sum in a sandbox is worth. -/
noncomputable def Try.pinned : Pinned := { name := "ytjefenjflfhimaa", sum := "8d5317517ad72dcc2a8969afc02739616637d8f2dade93acc3aa8e2efa96826a", checked := Try.checked }
namespace Rows
def none {H : Type} : Left H := { results := [], args := [] }

/-- 'ninepinlaw04.MatDet': WHATEVER THE INPUT: true; the input reads as it did. -/
def matDetSpec : ChangeSpec := { name := "matDet", fn := fun _ => fun
  | [d] => { results := [.lit (.bool true)], args := [d] }
  | _ => none }
def matDetRow : OpenClaim := { program := "ytjefenjflfhimaa", sum := "8d5317517ad72dcc2a8969afc02739616637d8f2dade93acc3aa8e2efa96826a", func := "ninepin/ninepinlaw04.MatDet", spec := "matDet", inPlace := ["math/bits.Add64"], unfollowed := true, recurses := true, apart := false }
def MatDetSaid : Prop := matDetRow.holds Try.pinned (OpenSpec.ofChange matDetSpec)

/-- ITS FALSE NEIGHBOUR: 'it returns false'. Refute it at one input. -/
def matDetWrong : ChangeSpec := { name := "matDet", fn := fun _ => fun
  | [d] => { results := [.lit (.bool false)], args := [d] }
  | _ => none }
def MatDetWrongFalsely : Prop := matDetRow.holds Try.pinned (OpenSpec.ofChange matDetWrong)

/-- 'ninepinlaw04.MatSigns': WHATEVER THE INPUT: true; the input reads as it did. -/
def matSignsSpec : ChangeSpec := { name := "matSigns", fn := fun _ => fun
  | [d1, d2] => { results := [.lit (.bool true)], args := [d1, d2] }
  | _ => none }
def matSignsRow : OpenClaim := { program := "ytjefenjflfhimaa", sum := "8d5317517ad72dcc2a8969afc02739616637d8f2dade93acc3aa8e2efa96826a", func := "ninepin/ninepinlaw04.MatSigns", spec := "matSigns", inPlace := ["math/bits.Add64"], unfollowed := true, recurses := true, apart := false }
def MatSignsSaid : Prop := matSignsRow.holds Try.pinned (OpenSpec.ofChange matSignsSpec)

/-- ITS FALSE NEIGHBOUR: 'it returns false'. Refute it at one input. -/
def matSignsWrong : ChangeSpec := { name := "matSigns", fn := fun _ => fun
  | [d1, d2] => { results := [.lit (.bool false)], args := [d1, d2] }
  | _ => none }
def MatSignsWrongFalsely : Prop := matSignsRow.holds Try.pinned (OpenSpec.ofChange matSignsWrong)

/-- 'ninepinlaw04.MatBetween': WHATEVER THE INPUT: true; the input reads as it did. -/
def matBetweenSpec : ChangeSpec := { name := "matBetween", fn := fun _ => fun
  | [d1, d2] => { results := [.lit (.bool true)], args := [d1, d2] }
  | _ => none }
def matBetweenRow : OpenClaim := { program := "ytjefenjflfhimaa", sum := "8d5317517ad72dcc2a8969afc02739616637d8f2dade93acc3aa8e2efa96826a", func := "ninepin/ninepinlaw04.MatBetween", spec := "matBetween", inPlace := ["math/bits.Add64"], unfollowed := true, recurses := true, apart := false }
def MatBetweenSaid : Prop := matBetweenRow.holds Try.pinned (OpenSpec.ofChange matBetweenSpec)

/-- ITS FALSE NEIGHBOUR: 'it returns false'. Refute it at one input. -/
def matBetweenWrong : ChangeSpec := { name := "matBetween", fn := fun _ => fun
  | [d1, d2] => { results := [.lit (.bool false)], args := [d1, d2] }
  | _ => none }
def MatBetweenWrongFalsely : Prop := matBetweenRow.holds Try.pinned (OpenSpec.ofChange matBetweenWrong)

/-- 'ninepinlaw04.MatInverse': WHATEVER THE INPUT: true; the input reads as it did. -/
def matInverseSpec : ChangeSpec := { name := "matInverse", fn := fun _ => fun
  | [d1, d2] => { results := [.lit (.bool true)], args := [d1, d2] }
  | _ => none }
def matInverseRow : OpenClaim := { program := "ytjefenjflfhimaa", sum := "8d5317517ad72dcc2a8969afc02739616637d8f2dade93acc3aa8e2efa96826a", func := "ninepin/ninepinlaw04.MatInverse", spec := "matInverse", inPlace := ["math/bits.Add64"], unfollowed := true, recurses := true, apart := false }
def MatInverseSaid : Prop := matInverseRow.holds Try.pinned (OpenSpec.ofChange matInverseSpec)

/-- ITS FALSE NEIGHBOUR: 'it returns false'. Refute it at one input. -/
def matInverseWrong : ChangeSpec := { name := "matInverse", fn := fun _ => fun
  | [d1, d2] => { results := [.lit (.bool false)], args := [d1, d2] }
  | _ => none }
def MatInverseWrongFalsely : Prop := matInverseRow.holds Try.pinned (OpenSpec.ofChange matInverseWrong)

/-- 'ninepinlaw04.MatSums': WHATEVER THE INPUT: true; the input reads as it did. -/
def matSumsSpec : ChangeSpec := { name := "matSums", fn := fun _ => fun
  | [d1, d2, d3] => { results := [.lit (.bool true)], args := [d1, d2, d3] }
  | _ => none }
def matSumsRow : OpenClaim := { program := "ytjefenjflfhimaa", sum := "8d5317517ad72dcc2a8969afc02739616637d8f2dade93acc3aa8e2efa96826a", func := "ninepin/ninepinlaw04.MatSums", spec := "matSums", inPlace := ["math/bits.Add64"], unfollowed := true, recurses := true, apart := false }
def MatSumsSaid : Prop := matSumsRow.holds Try.pinned (OpenSpec.ofChange matSumsSpec)

/-- ITS FALSE NEIGHBOUR: 'it returns false'. Refute it at one input. -/
def matSumsWrong : ChangeSpec := { name := "matSums", fn := fun _ => fun
  | [d1, d2, d3] => { results := [.lit (.bool false)], args := [d1, d2, d3] }
  | _ => none }
def MatSumsWrongFalsely : Prop := matSumsRow.holds Try.pinned (OpenSpec.ofChange matSumsWrong)

/-- 'ninepinlaw04.MatMul': WHATEVER THE INPUT: true; the input reads as it did. -/
def matMulSpec : ChangeSpec := { name := "matMul", fn := fun _ => fun
  | [d1, d2, d3] => { results := [.lit (.bool true)], args := [d1, d2, d3] }
  | _ => none }
def matMulRow : OpenClaim := { program := "ytjefenjflfhimaa", sum := "8d5317517ad72dcc2a8969afc02739616637d8f2dade93acc3aa8e2efa96826a", func := "ninepin/ninepinlaw04.MatMul", spec := "matMul", inPlace := ["math/bits.Add64"], unfollowed := true, recurses := true, apart := false }
def MatMulSaid : Prop := matMulRow.holds Try.pinned (OpenSpec.ofChange matMulSpec)

/-- ITS FALSE NEIGHBOUR: 'it returns false'. Refute it at one input. -/
def matMulWrong : ChangeSpec := { name := "matMul", fn := fun _ => fun
  | [d1, d2, d3] => { results := [.lit (.bool false)], args := [d1, d2, d3] }
  | _ => none }
def MatMulWrongFalsely : Prop := matMulRow.holds Try.pinned (OpenSpec.ofChange matMulWrong)

/-- 'ninepinlaw04.MatOne': WHATEVER THE INPUT: true; the input reads as it did. -/
def matOneSpec : ChangeSpec := { name := "matOne", fn := fun _ => fun
  | [d1, d2] => { results := [.lit (.bool true)], args := [d1, d2] }
  | _ => none }
def matOneRow : OpenClaim := { program := "ytjefenjflfhimaa", sum := "8d5317517ad72dcc2a8969afc02739616637d8f2dade93acc3aa8e2efa96826a", func := "ninepin/ninepinlaw04.MatOne", spec := "matOne", inPlace := ["math/bits.Add64"], unfollowed := true, recurses := true, apart := false }
def MatOneSaid : Prop := matOneRow.holds Try.pinned (OpenSpec.ofChange matOneSpec)

/-- ITS FALSE NEIGHBOUR: 'it returns false'. Refute it at one input. -/
def matOneWrong : ChangeSpec := { name := "matOne", fn := fun _ => fun
  | [d1, d2] => { results := [.lit (.bool false)], args := [d1, d2] }
  | _ => none }
def MatOneWrongFalsely : Prop := matOneRow.holds Try.pinned (OpenSpec.ofChange matOneWrong)

/-- 'ninepinlaw04.MatTurned': WHATEVER THE INPUT: true; the input reads as it did. -/
def matTurnedSpec : ChangeSpec := { name := "matTurned", fn := fun _ => fun
  | [d1, d2, d3] => { results := [.lit (.bool true)], args := [d1, d2, d3] }
  | _ => none }
def matTurnedRow : OpenClaim := { program := "ytjefenjflfhimaa", sum := "8d5317517ad72dcc2a8969afc02739616637d8f2dade93acc3aa8e2efa96826a", func := "ninepin/ninepinlaw04.MatTurned", spec := "matTurned", inPlace := ["math/bits.Add64"], unfollowed := true, recurses := true, apart := false }
def MatTurnedSaid : Prop := matTurnedRow.holds Try.pinned (OpenSpec.ofChange matTurnedSpec)

/-- ITS FALSE NEIGHBOUR: 'it returns false'. Refute it at one input. -/
def matTurnedWrong : ChangeSpec := { name := "matTurned", fn := fun _ => fun
  | [d1, d2, d3] => { results := [.lit (.bool false)], args := [d1, d2, d3] }
  | _ => none }
def MatTurnedWrongFalsely : Prop := matTurnedRow.holds Try.pinned (OpenSpec.ofChange matTurnedWrong)

/-- 'ninepinlaw05.QuatUnit': WHATEVER THE INPUT: true; the input reads as it did. -/
def quatUnitSpec : ChangeSpec := { name := "quatUnit", fn := fun _ => fun
  | [d] => { results := [.lit (.bool true)], args := [d] }
  | _ => none }
def quatUnitRow : OpenClaim := { program := "ytjefenjflfhimaa", sum := "8d5317517ad72dcc2a8969afc02739616637d8f2dade93acc3aa8e2efa96826a", func := "ninepin/ninepinlaw05.QuatUnit", spec := "quatUnit", inPlace := ["math/bits.Add64"], unfollowed := true, recurses := true, apart := false }
def QuatUnitSaid : Prop := quatUnitRow.holds Try.pinned (OpenSpec.ofChange quatUnitSpec)

/-- ITS FALSE NEIGHBOUR: 'it returns false'. Refute it at one input. -/
def quatUnitWrong : ChangeSpec := { name := "quatUnit", fn := fun _ => fun
  | [d] => { results := [.lit (.bool false)], args := [d] }
  | _ => none }
def QuatUnitWrongFalsely : Prop := quatUnitRow.holds Try.pinned (OpenSpec.ofChange quatUnitWrong)

/-- 'ninepinlaw05.QuatMatrix': WHATEVER THE INPUT: true; the input reads as it did. -/
def quatMatrixSpec : ChangeSpec := { name := "quatMatrix", fn := fun _ => fun
  | [d] => { results := [.lit (.bool true)], args := [d] }
  | _ => none }
def quatMatrixRow : OpenClaim := { program := "ytjefenjflfhimaa", sum := "8d5317517ad72dcc2a8969afc02739616637d8f2dade93acc3aa8e2efa96826a", func := "ninepin/ninepinlaw05.QuatMatrix", spec := "quatMatrix", inPlace := ["math/bits.Add64"], unfollowed := true, recurses := true, apart := false }
def QuatMatrixSaid : Prop := quatMatrixRow.holds Try.pinned (OpenSpec.ofChange quatMatrixSpec)

/-- ITS FALSE NEIGHBOUR: 'it returns false'. Refute it at one input. -/
def quatMatrixWrong : ChangeSpec := { name := "quatMatrix", fn := fun _ => fun
  | [d] => { results := [.lit (.bool false)], args := [d] }
  | _ => none }
def QuatMatrixWrongFalsely : Prop := quatMatrixRow.holds Try.pinned (OpenSpec.ofChange quatMatrixWrong)

/-- 'ninepinlaw05.QuatUnitary': WHATEVER THE INPUT: true; the input reads as it did. -/
def quatUnitarySpec : ChangeSpec := { name := "quatUnitary", fn := fun _ => fun
  | [d] => { results := [.lit (.bool true)], args := [d] }
  | _ => none }
def quatUnitaryRow : OpenClaim := { program := "ytjefenjflfhimaa", sum := "8d5317517ad72dcc2a8969afc02739616637d8f2dade93acc3aa8e2efa96826a", func := "ninepin/ninepinlaw05.QuatUnitary", spec := "quatUnitary", inPlace := ["math/bits.Add64"], unfollowed := true, recurses := true, apart := false }
def QuatUnitarySaid : Prop := quatUnitaryRow.holds Try.pinned (OpenSpec.ofChange quatUnitarySpec)

/-- ITS FALSE NEIGHBOUR: 'it returns false'. Refute it at one input. -/
def quatUnitaryWrong : ChangeSpec := { name := "quatUnitary", fn := fun _ => fun
  | [d] => { results := [.lit (.bool false)], args := [d] }
  | _ => none }
def QuatUnitaryWrongFalsely : Prop := quatUnitaryRow.holds Try.pinned (OpenSpec.ofChange quatUnitaryWrong)

/-- 'ninepinlaw05.QuatRows': WHATEVER THE INPUT: true; the input reads as it did. -/
def quatRowsSpec : ChangeSpec := { name := "quatRows", fn := fun _ => fun
  | [d] => { results := [.lit (.bool true)], args := [d] }
  | _ => none }
def quatRowsRow : OpenClaim := { program := "ytjefenjflfhimaa", sum := "8d5317517ad72dcc2a8969afc02739616637d8f2dade93acc3aa8e2efa96826a", func := "ninepin/ninepinlaw05.QuatRows", spec := "quatRows", inPlace := ["math/bits.Add64"], unfollowed := true, recurses := true, apart := false }
def QuatRowsSaid : Prop := quatRowsRow.holds Try.pinned (OpenSpec.ofChange quatRowsSpec)

/-- ITS FALSE NEIGHBOUR: 'it returns false'. Refute it at one input. -/
def quatRowsWrong : ChangeSpec := { name := "quatRows", fn := fun _ => fun
  | [d] => { results := [.lit (.bool false)], args := [d] }
  | _ => none }
def QuatRowsWrongFalsely : Prop := quatRowsRow.holds Try.pinned (OpenSpec.ofChange quatRowsWrong)

/-- 'ninepinlaw04.MatDiag': WHATEVER THE INPUT: true; the input reads as it did. -/
def matDiagSpec : ChangeSpec := { name := "matDiag", fn := fun _ => fun
  | [d1, d2] => { results := [.lit (.bool true)], args := [d1, d2] }
  | _ => none }
def matDiagRow : OpenClaim := { program := "ytjefenjflfhimaa", sum := "8d5317517ad72dcc2a8969afc02739616637d8f2dade93acc3aa8e2efa96826a", func := "ninepin/ninepinlaw04.MatDiag", spec := "matDiag", inPlace := ["math/bits.Add64"], unfollowed := true, recurses := true, apart := false }
def MatDiagSaid : Prop := matDiagRow.holds Try.pinned (OpenSpec.ofChange matDiagSpec)

/-- ITS FALSE NEIGHBOUR: 'it returns false'. Refute it at one input. -/
def matDiagWrong : ChangeSpec := { name := "matDiag", fn := fun _ => fun
  | [d1, d2] => { results := [.lit (.bool false)], args := [d1, d2] }
  | _ => none }
def MatDiagWrongFalsely : Prop := matDiagRow.holds Try.pinned (OpenSpec.ofChange matDiagWrong)

/-- 'ninepinlaw05.QuatSpin': WHATEVER THE INPUT: true; the input reads as it did. -/
def quatSpinSpec : ChangeSpec := { name := "quatSpin", fn := fun _ => fun
  | [d1, d2, d3] => { results := [.lit (.bool true)], args := [d1, d2, d3] }
  | _ => none }
def quatSpinRow : OpenClaim := { program := "ytjefenjflfhimaa", sum := "8d5317517ad72dcc2a8969afc02739616637d8f2dade93acc3aa8e2efa96826a", func := "ninepin/ninepinlaw05.QuatSpin", spec := "quatSpin", inPlace := ["math/bits.Add64"], unfollowed := true, recurses := true, apart := false }
def QuatSpinSaid : Prop := quatSpinRow.holds Try.pinned (OpenSpec.ofChange quatSpinSpec)

/-- ITS FALSE NEIGHBOUR: 'it returns false'. Refute it at one input. -/
def quatSpinWrong : ChangeSpec := { name := "quatSpin", fn := fun _ => fun
  | [d1, d2, d3] => { results := [.lit (.bool false)], args := [d1, d2, d3] }
  | _ => none }
def QuatSpinWrongFalsely : Prop := quatSpinRow.holds Try.pinned (OpenSpec.ofChange quatSpinWrong)

/-- 'ninepinlaw05.QuatStill': WHATEVER THE INPUT: true; the input reads as it did. -/
def quatStillSpec : ChangeSpec := { name := "quatStill", fn := fun _ => fun
  | [d1, d2, d3] => { results := [.lit (.bool true)], args := [d1, d2, d3] }
  | _ => none }
def quatStillRow : OpenClaim := { program := "ytjefenjflfhimaa", sum := "8d5317517ad72dcc2a8969afc02739616637d8f2dade93acc3aa8e2efa96826a", func := "ninepin/ninepinlaw05.QuatStill", spec := "quatStill", inPlace := ["math/bits.Add64"], unfollowed := true, recurses := true, apart := false }
def QuatStillSaid : Prop := quatStillRow.holds Try.pinned (OpenSpec.ofChange quatStillSpec)

/-- ITS FALSE NEIGHBOUR: 'it returns false'. Refute it at one input. -/
def quatStillWrong : ChangeSpec := { name := "quatStill", fn := fun _ => fun
  | [d1, d2, d3] => { results := [.lit (.bool false)], args := [d1, d2, d3] }
  | _ => none }
def QuatStillWrongFalsely : Prop := quatStillRow.holds Try.pinned (OpenSpec.ofChange quatStillWrong)

/-- 'ninepinlaw05.QuatMul': WHATEVER THE INPUT: true; the input reads as it did. -/
def quatMulSpec : ChangeSpec := { name := "quatMul", fn := fun _ => fun
  | [d1, d2] => { results := [.lit (.bool true)], args := [d1, d2] }
  | _ => none }
def quatMulRow : OpenClaim := { program := "ytjefenjflfhimaa", sum := "8d5317517ad72dcc2a8969afc02739616637d8f2dade93acc3aa8e2efa96826a", func := "ninepin/ninepinlaw05.QuatMul", spec := "quatMul", inPlace := ["math/bits.Add64"], unfollowed := true, recurses := true, apart := false }
def QuatMulSaid : Prop := quatMulRow.holds Try.pinned (OpenSpec.ofChange quatMulSpec)

/-- ITS FALSE NEIGHBOUR: 'it returns false'. Refute it at one input. -/
def quatMulWrong : ChangeSpec := { name := "quatMul", fn := fun _ => fun
  | [d1, d2] => { results := [.lit (.bool false)], args := [d1, d2] }
  | _ => none }
def QuatMulWrongFalsely : Prop := quatMulRow.holds Try.pinned (OpenSpec.ofChange quatMulWrong)

/-- 'ninepinlaw05.QuatBack': WHATEVER THE INPUT: true; the input reads as it did. -/
def quatBackSpec : ChangeSpec := { name := "quatBack", fn := fun _ => fun
  | [d] => { results := [.lit (.bool true)], args := [d] }
  | _ => none }
def quatBackRow : OpenClaim := { program := "ytjefenjflfhimaa", sum := "8d5317517ad72dcc2a8969afc02739616637d8f2dade93acc3aa8e2efa96826a", func := "ninepin/ninepinlaw05.QuatBack", spec := "quatBack", inPlace := ["math/bits.Add64"], unfollowed := true, recurses := true, apart := false }
def QuatBackSaid : Prop := quatBackRow.holds Try.pinned (OpenSpec.ofChange quatBackSpec)

/-- ITS FALSE NEIGHBOUR: 'it returns false'. Refute it at one input. -/
def quatBackWrong : ChangeSpec := { name := "quatBack", fn := fun _ => fun
  | [d] => { results := [.lit (.bool false)], args := [d] }
  | _ => none }
def QuatBackWrongFalsely : Prop := quatBackRow.holds Try.pinned (OpenSpec.ofChange quatBackWrong)

/-- 'ninepinlaw05.QuatUndone': WHATEVER THE INPUT: true; the input reads as it did. -/
def quatUndoneSpec : ChangeSpec := { name := "quatUndone", fn := fun _ => fun
  | [d] => { results := [.lit (.bool true)], args := [d] }
  | _ => none }
def quatUndoneRow : OpenClaim := { program := "ytjefenjflfhimaa", sum := "8d5317517ad72dcc2a8969afc02739616637d8f2dade93acc3aa8e2efa96826a", func := "ninepin/ninepinlaw05.QuatUndone", spec := "quatUndone", inPlace := ["math/bits.Add64"], unfollowed := true, recurses := true, apart := false }
def QuatUndoneSaid : Prop := quatUndoneRow.holds Try.pinned (OpenSpec.ofChange quatUndoneSpec)

/-- ITS FALSE NEIGHBOUR: 'it returns false'. Refute it at one input. -/
def quatUndoneWrong : ChangeSpec := { name := "quatUndone", fn := fun _ => fun
  | [d] => { results := [.lit (.bool false)], args := [d] }
  | _ => none }
def QuatUndoneWrongFalsely : Prop := quatUndoneRow.holds Try.pinned (OpenSpec.ofChange quatUndoneWrong)

/-- 'ninepinlaw05.QuatBoth': WHATEVER THE INPUT: true; the input reads as it did. -/
def quatBothSpec : ChangeSpec := { name := "quatBoth", fn := fun _ => fun
  | [d1, d2] => { results := [.lit (.bool true)], args := [d1, d2] }
  | _ => none }
def quatBothRow : OpenClaim := { program := "ytjefenjflfhimaa", sum := "8d5317517ad72dcc2a8969afc02739616637d8f2dade93acc3aa8e2efa96826a", func := "ninepin/ninepinlaw05.QuatBoth", spec := "quatBoth", inPlace := ["math/bits.Add64"], unfollowed := true, recurses := true, apart := false }
def QuatBothSaid : Prop := quatBothRow.holds Try.pinned (OpenSpec.ofChange quatBothSpec)

/-- ITS FALSE NEIGHBOUR: 'it returns false'. Refute it at one input. -/
def quatBothWrong : ChangeSpec := { name := "quatBoth", fn := fun _ => fun
  | [d1, d2] => { results := [.lit (.bool false)], args := [d1, d2] }
  | _ => none }
def QuatBothWrongFalsely : Prop := quatBothRow.holds Try.pinned (OpenSpec.ofChange quatBothWrong)

/- THE SECOND FORM. 'bulk': how many values and letters a reading holds, each counted each time it is reached (what is shared counts as often as it is met; a slice's spare places count too). A statement '..UptoSaid' is the law's where the arguments, and the package variables that the reading takes, are together of bulk at most 1048576: NARROWER than '..Said'. Prove '..Said' where nothing that the law and all that it calls make is longer than what came in: it says more and counts as full. Else prove '..UptoSaid'. A law counts once. -/
mutual
def uptoBulk {H : Type} : DataW H → Nat
  | .lit (.string bytes) => bytes.length + 1
  | .lit _ => 1
  | .nil => 1
  | .ptr d => uptoBulk d + 1
  | .slice elems spare => uptoBulkAll elems + uptoBulkAll spare + 1
  | .agg parts => uptoBulkAll parts + 1
  | .iface _ d => uptoBulk d + 1
  | .map entries => uptoBulkEntries entries + 1
  | .held _ => 1
def uptoBulkAll {H : Type} : List (DataW H) → Nat
  | [] => 0
  | d :: r => uptoBulk d + uptoBulkAll r
def uptoBulkEntries {H : Type} : List (Lit × DataW H) → Nat
  | [] => 0
  | x :: r => uptoBulkEntry x + uptoBulkEntries r
def uptoBulkEntry {H : Type} : Lit × DataW H → Nat
  | (.string bytes, d) => bytes.length + uptoBulk d + 1
  | (_, d) => uptoBulk d + 1
 end
def uptoSmall : (H : Type) → List (DataW H) → Bool := fun _ ds => decide (uptoBulkAll ds ≤ 1048576)
def OpenSpec.upto (s : _root_.Go.ChangeSpec) : _root_.Go.OpenSpec := { _root_.Go.OpenSpec.ofChange s with cond := some uptoSmall }

/-- 'ninepinlaw04.MatDet', WHERE WHAT IT READS IS OF BULK AT MOST 1048576: true; the input reads as it did. -/
def matDetUptoRow : OpenClaim := { program := "ytjefenjflfhimaa", sum := "8d5317517ad72dcc2a8969afc02739616637d8f2dade93acc3aa8e2efa96826a", func := "ninepin/ninepinlaw04.MatDet", spec := "matDet", inPlace := ["math/bits.Add64"], unfollowed := true, recurses := true, apart := false, narrowed := true }
def MatDetUptoSaid : Prop := matDetUptoRow.holds Try.pinned (OpenSpec.upto matDetSpec)

/-- 'ninepinlaw04.MatSigns', WHERE WHAT IT READS IS OF BULK AT MOST 1048576: true; the input reads as it did. -/
def matSignsUptoRow : OpenClaim := { program := "ytjefenjflfhimaa", sum := "8d5317517ad72dcc2a8969afc02739616637d8f2dade93acc3aa8e2efa96826a", func := "ninepin/ninepinlaw04.MatSigns", spec := "matSigns", inPlace := ["math/bits.Add64"], unfollowed := true, recurses := true, apart := false, narrowed := true }
def MatSignsUptoSaid : Prop := matSignsUptoRow.holds Try.pinned (OpenSpec.upto matSignsSpec)

/-- 'ninepinlaw04.MatBetween', WHERE WHAT IT READS IS OF BULK AT MOST 1048576: true; the input reads as it did. -/
def matBetweenUptoRow : OpenClaim := { program := "ytjefenjflfhimaa", sum := "8d5317517ad72dcc2a8969afc02739616637d8f2dade93acc3aa8e2efa96826a", func := "ninepin/ninepinlaw04.MatBetween", spec := "matBetween", inPlace := ["math/bits.Add64"], unfollowed := true, recurses := true, apart := false, narrowed := true }
def MatBetweenUptoSaid : Prop := matBetweenUptoRow.holds Try.pinned (OpenSpec.upto matBetweenSpec)

/-- 'ninepinlaw04.MatInverse', WHERE WHAT IT READS IS OF BULK AT MOST 1048576: true; the input reads as it did. -/
def matInverseUptoRow : OpenClaim := { program := "ytjefenjflfhimaa", sum := "8d5317517ad72dcc2a8969afc02739616637d8f2dade93acc3aa8e2efa96826a", func := "ninepin/ninepinlaw04.MatInverse", spec := "matInverse", inPlace := ["math/bits.Add64"], unfollowed := true, recurses := true, apart := false, narrowed := true }
def MatInverseUptoSaid : Prop := matInverseUptoRow.holds Try.pinned (OpenSpec.upto matInverseSpec)

/-- 'ninepinlaw04.MatSums', WHERE WHAT IT READS IS OF BULK AT MOST 1048576: true; the input reads as it did. -/
def matSumsUptoRow : OpenClaim := { program := "ytjefenjflfhimaa", sum := "8d5317517ad72dcc2a8969afc02739616637d8f2dade93acc3aa8e2efa96826a", func := "ninepin/ninepinlaw04.MatSums", spec := "matSums", inPlace := ["math/bits.Add64"], unfollowed := true, recurses := true, apart := false, narrowed := true }
def MatSumsUptoSaid : Prop := matSumsUptoRow.holds Try.pinned (OpenSpec.upto matSumsSpec)

/-- 'ninepinlaw04.MatMul', WHERE WHAT IT READS IS OF BULK AT MOST 1048576: true; the input reads as it did. -/
def matMulUptoRow : OpenClaim := { program := "ytjefenjflfhimaa", sum := "8d5317517ad72dcc2a8969afc02739616637d8f2dade93acc3aa8e2efa96826a", func := "ninepin/ninepinlaw04.MatMul", spec := "matMul", inPlace := ["math/bits.Add64"], unfollowed := true, recurses := true, apart := false, narrowed := true }
def MatMulUptoSaid : Prop := matMulUptoRow.holds Try.pinned (OpenSpec.upto matMulSpec)

/-- 'ninepinlaw04.MatOne', WHERE WHAT IT READS IS OF BULK AT MOST 1048576: true; the input reads as it did. -/
def matOneUptoRow : OpenClaim := { program := "ytjefenjflfhimaa", sum := "8d5317517ad72dcc2a8969afc02739616637d8f2dade93acc3aa8e2efa96826a", func := "ninepin/ninepinlaw04.MatOne", spec := "matOne", inPlace := ["math/bits.Add64"], unfollowed := true, recurses := true, apart := false, narrowed := true }
def MatOneUptoSaid : Prop := matOneUptoRow.holds Try.pinned (OpenSpec.upto matOneSpec)

/-- 'ninepinlaw04.MatTurned', WHERE WHAT IT READS IS OF BULK AT MOST 1048576: true; the input reads as it did. -/
def matTurnedUptoRow : OpenClaim := { program := "ytjefenjflfhimaa", sum := "8d5317517ad72dcc2a8969afc02739616637d8f2dade93acc3aa8e2efa96826a", func := "ninepin/ninepinlaw04.MatTurned", spec := "matTurned", inPlace := ["math/bits.Add64"], unfollowed := true, recurses := true, apart := false, narrowed := true }
def MatTurnedUptoSaid : Prop := matTurnedUptoRow.holds Try.pinned (OpenSpec.upto matTurnedSpec)

/-- 'ninepinlaw05.QuatUnit', WHERE WHAT IT READS IS OF BULK AT MOST 1048576: true; the input reads as it did. -/
def quatUnitUptoRow : OpenClaim := { program := "ytjefenjflfhimaa", sum := "8d5317517ad72dcc2a8969afc02739616637d8f2dade93acc3aa8e2efa96826a", func := "ninepin/ninepinlaw05.QuatUnit", spec := "quatUnit", inPlace := ["math/bits.Add64"], unfollowed := true, recurses := true, apart := false, narrowed := true }
def QuatUnitUptoSaid : Prop := quatUnitUptoRow.holds Try.pinned (OpenSpec.upto quatUnitSpec)

/-- 'ninepinlaw05.QuatMatrix', WHERE WHAT IT READS IS OF BULK AT MOST 1048576: true; the input reads as it did. -/
def quatMatrixUptoRow : OpenClaim := { program := "ytjefenjflfhimaa", sum := "8d5317517ad72dcc2a8969afc02739616637d8f2dade93acc3aa8e2efa96826a", func := "ninepin/ninepinlaw05.QuatMatrix", spec := "quatMatrix", inPlace := ["math/bits.Add64"], unfollowed := true, recurses := true, apart := false, narrowed := true }
def QuatMatrixUptoSaid : Prop := quatMatrixUptoRow.holds Try.pinned (OpenSpec.upto quatMatrixSpec)

/-- 'ninepinlaw05.QuatUnitary', WHERE WHAT IT READS IS OF BULK AT MOST 1048576: true; the input reads as it did. -/
def quatUnitaryUptoRow : OpenClaim := { program := "ytjefenjflfhimaa", sum := "8d5317517ad72dcc2a8969afc02739616637d8f2dade93acc3aa8e2efa96826a", func := "ninepin/ninepinlaw05.QuatUnitary", spec := "quatUnitary", inPlace := ["math/bits.Add64"], unfollowed := true, recurses := true, apart := false, narrowed := true }
def QuatUnitaryUptoSaid : Prop := quatUnitaryUptoRow.holds Try.pinned (OpenSpec.upto quatUnitarySpec)

/-- 'ninepinlaw05.QuatRows', WHERE WHAT IT READS IS OF BULK AT MOST 1048576: true; the input reads as it did. -/
def quatRowsUptoRow : OpenClaim := { program := "ytjefenjflfhimaa", sum := "8d5317517ad72dcc2a8969afc02739616637d8f2dade93acc3aa8e2efa96826a", func := "ninepin/ninepinlaw05.QuatRows", spec := "quatRows", inPlace := ["math/bits.Add64"], unfollowed := true, recurses := true, apart := false, narrowed := true }
def QuatRowsUptoSaid : Prop := quatRowsUptoRow.holds Try.pinned (OpenSpec.upto quatRowsSpec)

/-- 'ninepinlaw04.MatDiag', WHERE WHAT IT READS IS OF BULK AT MOST 1048576: true; the input reads as it did. -/
def matDiagUptoRow : OpenClaim := { program := "ytjefenjflfhimaa", sum := "8d5317517ad72dcc2a8969afc02739616637d8f2dade93acc3aa8e2efa96826a", func := "ninepin/ninepinlaw04.MatDiag", spec := "matDiag", inPlace := ["math/bits.Add64"], unfollowed := true, recurses := true, apart := false, narrowed := true }
def MatDiagUptoSaid : Prop := matDiagUptoRow.holds Try.pinned (OpenSpec.upto matDiagSpec)

/-- 'ninepinlaw05.QuatSpin', WHERE WHAT IT READS IS OF BULK AT MOST 1048576: true; the input reads as it did. -/
def quatSpinUptoRow : OpenClaim := { program := "ytjefenjflfhimaa", sum := "8d5317517ad72dcc2a8969afc02739616637d8f2dade93acc3aa8e2efa96826a", func := "ninepin/ninepinlaw05.QuatSpin", spec := "quatSpin", inPlace := ["math/bits.Add64"], unfollowed := true, recurses := true, apart := false, narrowed := true }
def QuatSpinUptoSaid : Prop := quatSpinUptoRow.holds Try.pinned (OpenSpec.upto quatSpinSpec)

/-- 'ninepinlaw05.QuatStill', WHERE WHAT IT READS IS OF BULK AT MOST 1048576: true; the input reads as it did. -/
def quatStillUptoRow : OpenClaim := { program := "ytjefenjflfhimaa", sum := "8d5317517ad72dcc2a8969afc02739616637d8f2dade93acc3aa8e2efa96826a", func := "ninepin/ninepinlaw05.QuatStill", spec := "quatStill", inPlace := ["math/bits.Add64"], unfollowed := true, recurses := true, apart := false, narrowed := true }
def QuatStillUptoSaid : Prop := quatStillUptoRow.holds Try.pinned (OpenSpec.upto quatStillSpec)

/-- 'ninepinlaw05.QuatMul', WHERE WHAT IT READS IS OF BULK AT MOST 1048576: true; the input reads as it did. -/
def quatMulUptoRow : OpenClaim := { program := "ytjefenjflfhimaa", sum := "8d5317517ad72dcc2a8969afc02739616637d8f2dade93acc3aa8e2efa96826a", func := "ninepin/ninepinlaw05.QuatMul", spec := "quatMul", inPlace := ["math/bits.Add64"], unfollowed := true, recurses := true, apart := false, narrowed := true }
def QuatMulUptoSaid : Prop := quatMulUptoRow.holds Try.pinned (OpenSpec.upto quatMulSpec)

/-- 'ninepinlaw05.QuatBack', WHERE WHAT IT READS IS OF BULK AT MOST 1048576: true; the input reads as it did. -/
def quatBackUptoRow : OpenClaim := { program := "ytjefenjflfhimaa", sum := "8d5317517ad72dcc2a8969afc02739616637d8f2dade93acc3aa8e2efa96826a", func := "ninepin/ninepinlaw05.QuatBack", spec := "quatBack", inPlace := ["math/bits.Add64"], unfollowed := true, recurses := true, apart := false, narrowed := true }
def QuatBackUptoSaid : Prop := quatBackUptoRow.holds Try.pinned (OpenSpec.upto quatBackSpec)

/-- 'ninepinlaw05.QuatUndone', WHERE WHAT IT READS IS OF BULK AT MOST 1048576: true; the input reads as it did. -/
def quatUndoneUptoRow : OpenClaim := { program := "ytjefenjflfhimaa", sum := "8d5317517ad72dcc2a8969afc02739616637d8f2dade93acc3aa8e2efa96826a", func := "ninepin/ninepinlaw05.QuatUndone", spec := "quatUndone", inPlace := ["math/bits.Add64"], unfollowed := true, recurses := true, apart := false, narrowed := true }
def QuatUndoneUptoSaid : Prop := quatUndoneUptoRow.holds Try.pinned (OpenSpec.upto quatUndoneSpec)

/-- 'ninepinlaw05.QuatBoth', WHERE WHAT IT READS IS OF BULK AT MOST 1048576: true; the input reads as it did. -/
def quatBothUptoRow : OpenClaim := { program := "ytjefenjflfhimaa", sum := "8d5317517ad72dcc2a8969afc02739616637d8f2dade93acc3aa8e2efa96826a", func := "ninepin/ninepinlaw05.QuatBoth", spec := "quatBoth", inPlace := ["math/bits.Add64"], unfollowed := true, recurses := true, apart := false, narrowed := true }
def QuatBothUptoSaid : Prop := quatBothUptoRow.holds Try.pinned (OpenSpec.upto quatBothSpec)

end Rows
end Go.Proofs.Ytjefenjflfhimaa
