/-
  No cell of these rows narrows 'for every input' (looked for: loops, veiled, ifaces, maps, wideKeys, modest, calm, conditions, laid).
  DERIVED. THE GIVEN ROWS OF THIS SEAT. 16 by the template 'for every input the law returns true; each argument reads behind the call as it read before'; 0 by the template 'total and deterministic' (their statements: YthoodhdcmckkpaaTotals.lean).
  GIVEN WITH THE SEED: the statements are not yours to turn. If you find one false, say at which input.
  Laid BY PROGRAM, IN A SANDBOX (cutbox-rows.mjs): the forced cells as the released guide's own fill.sh prints them over the translation d23b7684c3d13ecc… (all of the seat's roots in one cut). By AI agents, Wed Nov 11 2026. No macro, syntax, notation, axiom, sorry.
-/
import Derived.Test.YthoodhdcmckkpaaChecked
import GoSem.Claim
import GoSem.ClaimJoined
import GoSem.ClaimMapViews
import Derived.JoinedTies
import Derived.KernelRfl
namespace Go.Proofs.Ythoodhdcmckkpaa
/- THE CELL 'sum', in the pinned program and in every row, IS THE sha256 OF THE DUMP (.gsa) THAT YthoodhdcmckkpaaProg.lean LOADS. Nothing in Lean hashes anything: it is a label: what it is worth is what the hold of that sum in a sandbox is worth. -/
noncomputable def Try.pinned : Pinned := { name := "ythoodhdcmckkpaa", sum := "d23b7684c3d13ecc07257cfc2c56b51a21a375826f12f96f5ad03800632ee041", checked := Try.checked }
namespace Rows
def none {H : Type} : Left H := { results := [], args := [] }

/-- 'laws.FnSumDifference': WHATEVER THE INPUT: true; the input reads as it did. -/
def fnSumDifferenceSpec : ChangeSpec := { name := "fnSumDifference", fn := fun _ => fun
  | [d] => { results := [.lit (.bool true)], args := [d] }
  | _ => none }
def fnSumDifferenceRow : OpenClaim := { program := "ythoodhdcmckkpaa", sum := "d23b7684c3d13ecc07257cfc2c56b51a21a375826f12f96f5ad03800632ee041", func := "loop.example/differenceengine/laws.FnSumDifference", spec := "fnSumDifference", apart := false }
def FnSumDifferenceSaid : Prop := fnSumDifferenceRow.holds Try.pinned (OpenSpec.ofChange fnSumDifferenceSpec)

/-- ITS FALSE NEIGHBOUR: 'it returns false'. Refute it at one input. -/
def fnSumDifferenceWrong : ChangeSpec := { name := "fnSumDifference", fn := fun _ => fun
  | [d] => { results := [.lit (.bool false)], args := [d] }
  | _ => none }
def FnSumDifferenceWrongFalsely : Prop := fnSumDifferenceRow.holds Try.pinned (OpenSpec.ofChange fnSumDifferenceWrong)

/-- 'laws.FnPowersOf': WHATEVER THE INPUT: true; the input reads as it did. -/
def fnPowersOfSpec : ChangeSpec := { name := "fnPowersOf", fn := fun _ => fun
  | [d] => { results := [.lit (.bool true)], args := [d] }
  | _ => none }
def fnPowersOfRow : OpenClaim := { program := "ythoodhdcmckkpaa", sum := "d23b7684c3d13ecc07257cfc2c56b51a21a375826f12f96f5ad03800632ee041", func := "loop.example/differenceengine/laws.FnPowersOf", spec := "fnPowersOf", apart := false }
def FnPowersOfSaid : Prop := fnPowersOfRow.holds Try.pinned (OpenSpec.ofChange fnPowersOfSpec)

/-- ITS FALSE NEIGHBOUR: 'it returns false'. Refute it at one input. -/
def fnPowersOfWrong : ChangeSpec := { name := "fnPowersOf", fn := fun _ => fun
  | [d] => { results := [.lit (.bool false)], args := [d] }
  | _ => none }
def FnPowersOfWrongFalsely : Prop := fnPowersOfRow.holds Try.pinned (OpenSpec.ofChange fnPowersOfWrong)

/-- 'laws.FnExactStepPoly': WHATEVER THE INPUT: true; the input reads as it did. -/
def fnExactStepPolySpec : ChangeSpec := { name := "fnExactStepPoly", fn := fun _ => fun
  | [d1, d2] => { results := [.lit (.bool true)], args := [d1, d2] }
  | _ => none }
def fnExactStepPolyRow : OpenClaim := { program := "ythoodhdcmckkpaa", sum := "d23b7684c3d13ecc07257cfc2c56b51a21a375826f12f96f5ad03800632ee041", func := "loop.example/differenceengine/laws.FnExactStepPoly", spec := "fnExactStepPoly", apart := false }
def FnExactStepPolySaid : Prop := fnExactStepPolyRow.holds Try.pinned (OpenSpec.ofChange fnExactStepPolySpec)

/-- ITS FALSE NEIGHBOUR: 'it returns false'. Refute it at one input. -/
def fnExactStepPolyWrong : ChangeSpec := { name := "fnExactStepPoly", fn := fun _ => fun
  | [d1, d2] => { results := [.lit (.bool false)], args := [d1, d2] }
  | _ => none }
def FnExactStepPolyWrongFalsely : Prop := fnExactStepPolyRow.holds Try.pinned (OpenSpec.ofChange fnExactStepPolyWrong)

/-- 'laws.FnExactTurnPoly': WHATEVER THE INPUT: true; the input reads as it did. -/
def fnExactTurnPolySpec : ChangeSpec := { name := "fnExactTurnPoly", fn := fun _ => fun
  | [d] => { results := [.lit (.bool true)], args := [d] }
  | _ => none }
def fnExactTurnPolyRow : OpenClaim := { program := "ythoodhdcmckkpaa", sum := "d23b7684c3d13ecc07257cfc2c56b51a21a375826f12f96f5ad03800632ee041", func := "loop.example/differenceengine/laws.FnExactTurnPoly", spec := "fnExactTurnPoly", apart := false }
def FnExactTurnPolySaid : Prop := fnExactTurnPolyRow.holds Try.pinned (OpenSpec.ofChange fnExactTurnPolySpec)

/-- ITS FALSE NEIGHBOUR: 'it returns false'. Refute it at one input. -/
def fnExactTurnPolyWrong : ChangeSpec := { name := "fnExactTurnPoly", fn := fun _ => fun
  | [d] => { results := [.lit (.bool false)], args := [d] }
  | _ => none }
def FnExactTurnPolyWrongFalsely : Prop := fnExactTurnPolyRow.holds Try.pinned (OpenSpec.ofChange fnExactTurnPolyWrong)

/-- 'laws.FnTrim': WHATEVER THE INPUT: true; the input reads as it did. -/
def fnTrimSpec : ChangeSpec := { name := "fnTrim", fn := fun _ => fun
  | [d] => { results := [.lit (.bool true)], args := [d] }
  | _ => none }
def fnTrimRow : OpenClaim := { program := "ythoodhdcmckkpaa", sum := "d23b7684c3d13ecc07257cfc2c56b51a21a375826f12f96f5ad03800632ee041", func := "loop.example/differenceengine/laws.FnTrim", spec := "fnTrim", apart := false }
def FnTrimSaid : Prop := fnTrimRow.holds Try.pinned (OpenSpec.ofChange fnTrimSpec)

/-- ITS FALSE NEIGHBOUR: 'it returns false'. Refute it at one input. -/
def fnTrimWrong : ChangeSpec := { name := "fnTrim", fn := fun _ => fun
  | [d] => { results := [.lit (.bool false)], args := [d] }
  | _ => none }
def FnTrimWrongFalsely : Prop := fnTrimRow.holds Try.pinned (OpenSpec.ofChange fnTrimWrong)

/-- 'laws.FnExactInterpolate': WHATEVER THE INPUT: true; the input reads as it did. -/
def fnExactInterpolateSpec : ChangeSpec := { name := "fnExactInterpolate", fn := fun _ => fun
  | [d] => { results := [.lit (.bool true)], args := [d] }
  | _ => none }
def fnExactInterpolateRow : OpenClaim := { program := "ythoodhdcmckkpaa", sum := "d23b7684c3d13ecc07257cfc2c56b51a21a375826f12f96f5ad03800632ee041", func := "loop.example/differenceengine/laws.FnExactInterpolate", spec := "fnExactInterpolate", apart := false }
def FnExactInterpolateSaid : Prop := fnExactInterpolateRow.holds Try.pinned (OpenSpec.ofChange fnExactInterpolateSpec)

/-- ITS FALSE NEIGHBOUR: 'it returns false'. Refute it at one input. -/
def fnExactInterpolateWrong : ChangeSpec := { name := "fnExactInterpolate", fn := fun _ => fun
  | [d] => { results := [.lit (.bool false)], args := [d] }
  | _ => none }
def FnExactInterpolateWrongFalsely : Prop := fnExactInterpolateRow.holds Try.pinned (OpenSpec.ofChange fnExactInterpolateWrong)

/-- 'laws.FnShiftStep': WHATEVER THE INPUT: true; the input reads as it did. -/
def fnShiftStepSpec : ChangeSpec := { name := "fnShiftStep", fn := fun _ => fun
  | [d] => { results := [.lit (.bool true)], args := [d] }
  | _ => none }
def fnShiftStepRow : OpenClaim := { program := "ythoodhdcmckkpaa", sum := "d23b7684c3d13ecc07257cfc2c56b51a21a375826f12f96f5ad03800632ee041", func := "loop.example/differenceengine/laws.FnShiftStep", spec := "fnShiftStep", apart := false }
def FnShiftStepSaid : Prop := fnShiftStepRow.holds Try.pinned (OpenSpec.ofChange fnShiftStepSpec)

/-- ITS FALSE NEIGHBOUR: 'it returns false'. Refute it at one input. -/
def fnShiftStepWrong : ChangeSpec := { name := "fnShiftStep", fn := fun _ => fun
  | [d] => { results := [.lit (.bool false)], args := [d] }
  | _ => none }
def FnShiftStepWrongFalsely : Prop := fnShiftStepRow.holds Try.pinned (OpenSpec.ofChange fnShiftStepWrong)

/-- 'laws.FnShift': WHATEVER THE INPUT: true; the input reads as it did. -/
def fnShiftSpec : ChangeSpec := { name := "fnShift", fn := fun _ => fun
  | [d] => { results := [.lit (.bool true)], args := [d] }
  | _ => none }
def fnShiftRow : OpenClaim := { program := "ythoodhdcmckkpaa", sum := "d23b7684c3d13ecc07257cfc2c56b51a21a375826f12f96f5ad03800632ee041", func := "loop.example/differenceengine/laws.FnShift", spec := "fnShift", apart := false }
def FnShiftSaid : Prop := fnShiftRow.holds Try.pinned (OpenSpec.ofChange fnShiftSpec)

/-- ITS FALSE NEIGHBOUR: 'it returns false'. Refute it at one input. -/
def fnShiftWrong : ChangeSpec := { name := "fnShift", fn := fun _ => fun
  | [d] => { results := [.lit (.bool false)], args := [d] }
  | _ => none }
def FnShiftWrongFalsely : Prop := fnShiftRow.holds Try.pinned (OpenSpec.ofChange fnShiftWrong)

/-- 'laws.FnAddPolys': WHATEVER THE INPUT: true; the input reads as it did. -/
def fnAddPolysSpec : ChangeSpec := { name := "fnAddPolys", fn := fun _ => fun
  | [d] => { results := [.lit (.bool true)], args := [d] }
  | _ => none }
def fnAddPolysRow : OpenClaim := { program := "ythoodhdcmckkpaa", sum := "d23b7684c3d13ecc07257cfc2c56b51a21a375826f12f96f5ad03800632ee041", func := "loop.example/differenceengine/laws.FnAddPolys", spec := "fnAddPolys", apart := false }
def FnAddPolysSaid : Prop := fnAddPolysRow.holds Try.pinned (OpenSpec.ofChange fnAddPolysSpec)

/-- ITS FALSE NEIGHBOUR: 'it returns false'. Refute it at one input. -/
def fnAddPolysWrong : ChangeSpec := { name := "fnAddPolys", fn := fun _ => fun
  | [d] => { results := [.lit (.bool false)], args := [d] }
  | _ => none }
def FnAddPolysWrongFalsely : Prop := fnAddPolysRow.holds Try.pinned (OpenSpec.ofChange fnAddPolysWrong)

/-- 'laws.FnDiffTable': WHATEVER THE INPUT: true; the input reads as it did. -/
def fnDiffTableSpec : ChangeSpec := { name := "fnDiffTable", fn := fun _ => fun
  | [d] => { results := [.lit (.bool true)], args := [d] }
  | _ => none }
def fnDiffTableRow : OpenClaim := { program := "ythoodhdcmckkpaa", sum := "d23b7684c3d13ecc07257cfc2c56b51a21a375826f12f96f5ad03800632ee041", func := "loop.example/differenceengine/laws.FnDiffTable", spec := "fnDiffTable", apart := false }
def FnDiffTableSaid : Prop := fnDiffTableRow.holds Try.pinned (OpenSpec.ofChange fnDiffTableSpec)

/-- ITS FALSE NEIGHBOUR: 'it returns false'. Refute it at one input. -/
def fnDiffTableWrong : ChangeSpec := { name := "fnDiffTable", fn := fun _ => fun
  | [d] => { results := [.lit (.bool false)], args := [d] }
  | _ => none }
def FnDiffTableWrongFalsely : Prop := fnDiffTableRow.holds Try.pinned (OpenSpec.ofChange fnDiffTableWrong)

/-- 'laws.FnPowers': WHATEVER THE INPUT: true; the input reads as it did. -/
def fnPowersSpec : ChangeSpec := { name := "fnPowers", fn := fun _ => fun
  | [d] => { results := [.lit (.bool true)], args := [d] }
  | _ => none }
def fnPowersRow : OpenClaim := { program := "ythoodhdcmckkpaa", sum := "d23b7684c3d13ecc07257cfc2c56b51a21a375826f12f96f5ad03800632ee041", func := "loop.example/differenceengine/laws.FnPowers", spec := "fnPowers", apart := false }
def FnPowersSaid : Prop := fnPowersRow.holds Try.pinned (OpenSpec.ofChange fnPowersSpec)

/-- ITS FALSE NEIGHBOUR: 'it returns false'. Refute it at one input. -/
def fnPowersWrong : ChangeSpec := { name := "fnPowers", fn := fun _ => fun
  | [d] => { results := [.lit (.bool false)], args := [d] }
  | _ => none }
def FnPowersWrongFalsely : Prop := fnPowersRow.holds Try.pinned (OpenSpec.ofChange fnPowersWrong)

/-- 'laws.FnStepTurn': WHATEVER THE INPUT: true; the input reads as it did. -/
def fnStepTurnSpec : ChangeSpec := { name := "fnStepTurn", fn := fun _ => fun
  | [d] => { results := [.lit (.bool true)], args := [d] }
  | _ => none }
def fnStepTurnRow : OpenClaim := { program := "ythoodhdcmckkpaa", sum := "d23b7684c3d13ecc07257cfc2c56b51a21a375826f12f96f5ad03800632ee041", func := "loop.example/differenceengine/laws.FnStepTurn", spec := "fnStepTurn", apart := false }
def FnStepTurnSaid : Prop := fnStepTurnRow.holds Try.pinned (OpenSpec.ofChange fnStepTurnSpec)

/-- ITS FALSE NEIGHBOUR: 'it returns false'. Refute it at one input. -/
def fnStepTurnWrong : ChangeSpec := { name := "fnStepTurn", fn := fun _ => fun
  | [d] => { results := [.lit (.bool false)], args := [d] }
  | _ => none }
def FnStepTurnWrongFalsely : Prop := fnStepTurnRow.holds Try.pinned (OpenSpec.ofChange fnStepTurnWrong)

/-- 'laws.FnMulDifference': WHATEVER THE INPUT: true; the input reads as it did. -/
def fnMulDifferenceSpec : ChangeSpec := { name := "fnMulDifference", fn := fun _ => fun
  | [d] => { results := [.lit (.bool true)], args := [d] }
  | _ => none }
def fnMulDifferenceRow : OpenClaim := { program := "ythoodhdcmckkpaa", sum := "d23b7684c3d13ecc07257cfc2c56b51a21a375826f12f96f5ad03800632ee041", func := "loop.example/differenceengine/laws.FnMulDifference", spec := "fnMulDifference", apart := false }
def FnMulDifferenceSaid : Prop := fnMulDifferenceRow.holds Try.pinned (OpenSpec.ofChange fnMulDifferenceSpec)

/-- ITS FALSE NEIGHBOUR: 'it returns false'. Refute it at one input. -/
def fnMulDifferenceWrong : ChangeSpec := { name := "fnMulDifference", fn := fun _ => fun
  | [d] => { results := [.lit (.bool false)], args := [d] }
  | _ => none }
def FnMulDifferenceWrongFalsely : Prop := fnMulDifferenceRow.holds Try.pinned (OpenSpec.ofChange fnMulDifferenceWrong)

/-- 'laws.FnMulPolys': WHATEVER THE INPUT: true; the input reads as it did. -/
def fnMulPolysSpec : ChangeSpec := { name := "fnMulPolys", fn := fun _ => fun
  | [d] => { results := [.lit (.bool true)], args := [d] }
  | _ => none }
def fnMulPolysRow : OpenClaim := { program := "ythoodhdcmckkpaa", sum := "d23b7684c3d13ecc07257cfc2c56b51a21a375826f12f96f5ad03800632ee041", func := "loop.example/differenceengine/laws.FnMulPolys", spec := "fnMulPolys", apart := false }
def FnMulPolysSaid : Prop := fnMulPolysRow.holds Try.pinned (OpenSpec.ofChange fnMulPolysSpec)

/-- ITS FALSE NEIGHBOUR: 'it returns false'. Refute it at one input. -/
def fnMulPolysWrong : ChangeSpec := { name := "fnMulPolys", fn := fun _ => fun
  | [d] => { results := [.lit (.bool false)], args := [d] }
  | _ => none }
def FnMulPolysWrongFalsely : Prop := fnMulPolysRow.holds Try.pinned (OpenSpec.ofChange fnMulPolysWrong)

/-- 'laws.FnInterpolateValues': WHATEVER THE INPUT: true; the input reads as it did. -/
def fnInterpolateValuesSpec : ChangeSpec := { name := "fnInterpolateValues", fn := fun _ => fun
  | [d] => { results := [.lit (.bool true)], args := [d] }
  | _ => none }
def fnInterpolateValuesRow : OpenClaim := { program := "ythoodhdcmckkpaa", sum := "d23b7684c3d13ecc07257cfc2c56b51a21a375826f12f96f5ad03800632ee041", func := "loop.example/differenceengine/laws.FnInterpolateValues", spec := "fnInterpolateValues", apart := false }
def FnInterpolateValuesSaid : Prop := fnInterpolateValuesRow.holds Try.pinned (OpenSpec.ofChange fnInterpolateValuesSpec)

/-- ITS FALSE NEIGHBOUR: 'it returns false'. Refute it at one input. -/
def fnInterpolateValuesWrong : ChangeSpec := { name := "fnInterpolateValues", fn := fun _ => fun
  | [d] => { results := [.lit (.bool false)], args := [d] }
  | _ => none }
def FnInterpolateValuesWrongFalsely : Prop := fnInterpolateValuesRow.holds Try.pinned (OpenSpec.ofChange fnInterpolateValuesWrong)

/-- 'laws.FnLeastDegree': WHATEVER THE INPUT: true; the input reads as it did. -/
def fnLeastDegreeSpec : ChangeSpec := { name := "fnLeastDegree", fn := fun _ => fun
  | [d] => { results := [.lit (.bool true)], args := [d] }
  | _ => none }
def fnLeastDegreeRow : OpenClaim := { program := "ythoodhdcmckkpaa", sum := "d23b7684c3d13ecc07257cfc2c56b51a21a375826f12f96f5ad03800632ee041", func := "loop.example/differenceengine/laws.FnLeastDegree", spec := "fnLeastDegree", apart := false }
def FnLeastDegreeSaid : Prop := fnLeastDegreeRow.holds Try.pinned (OpenSpec.ofChange fnLeastDegreeSpec)

/-- ITS FALSE NEIGHBOUR: 'it returns false'. Refute it at one input. -/
def fnLeastDegreeWrong : ChangeSpec := { name := "fnLeastDegree", fn := fun _ => fun
  | [d] => { results := [.lit (.bool false)], args := [d] }
  | _ => none }
def FnLeastDegreeWrongFalsely : Prop := fnLeastDegreeRow.holds Try.pinned (OpenSpec.ofChange fnLeastDegreeWrong)

/- THE SECOND FORM. 'bulk': how many values and letters a reading holds, each counted each time it is reached (what is shared counts as often as it is met; a slice's spare places count too). A statement '..UptoSaid' is the law's where the arguments, and the package variables that the reading takes, are together of bulk at most 1048576: NARROWER than '..Said'. Prove '..Said' where nothing that the law and all that it calls make is longer than what came in: it says more and counts as full. Else prove '..UptoSaid'. A law counts once. -/
mutual
def uptoBulk {H : Type} : DataW H → Nat
  | .lit (.string bytes) => bytes.length + 1
  | .lit _ => 1
  | .nil => 1
  | .ptr d => uptoBulk d + 1
  | .slice elems spare => uptoBulkAll elems + uptoBulkAll spare + 1
  | .agg parts => uptoBulkAll parts + 1
  | .iface _ d => uptoBulk d + 1
  | .map entries => uptoBulkEntries entries + 1
  | .held _ => 1
def uptoBulkAll {H : Type} : List (DataW H) → Nat
  | [] => 0
  | d :: r => uptoBulk d + uptoBulkAll r
def uptoBulkEntries {H : Type} : List (Lit × DataW H) → Nat
  | [] => 0
  | x :: r => uptoBulkEntry x + uptoBulkEntries r
def uptoBulkEntry {H : Type} : Lit × DataW H → Nat
  | (.string bytes, d) => bytes.length + uptoBulk d + 1
  | (_, d) => uptoBulk d + 1
 end
def uptoSmall : (H : Type) → List (DataW H) → Bool := fun _ ds => decide (uptoBulkAll ds ≤ 1048576)
def OpenSpec.upto (s : _root_.Go.ChangeSpec) : _root_.Go.OpenSpec := { _root_.Go.OpenSpec.ofChange s with cond := some uptoSmall }

/-- 'laws.FnSumDifference', WHERE WHAT IT READS IS OF BULK AT MOST 1048576: true; the input reads as it did. -/
def fnSumDifferenceUptoRow : OpenClaim := { program := "ythoodhdcmckkpaa", sum := "d23b7684c3d13ecc07257cfc2c56b51a21a375826f12f96f5ad03800632ee041", func := "loop.example/differenceengine/laws.FnSumDifference", spec := "fnSumDifference", apart := false, narrowed := true }
def FnSumDifferenceUptoSaid : Prop := fnSumDifferenceUptoRow.holds Try.pinned (OpenSpec.upto fnSumDifferenceSpec)

/-- 'laws.FnPowersOf', WHERE WHAT IT READS IS OF BULK AT MOST 1048576: true; the input reads as it did. -/
def fnPowersOfUptoRow : OpenClaim := { program := "ythoodhdcmckkpaa", sum := "d23b7684c3d13ecc07257cfc2c56b51a21a375826f12f96f5ad03800632ee041", func := "loop.example/differenceengine/laws.FnPowersOf", spec := "fnPowersOf", apart := false, narrowed := true }
def FnPowersOfUptoSaid : Prop := fnPowersOfUptoRow.holds Try.pinned (OpenSpec.upto fnPowersOfSpec)

/-- 'laws.FnExactStepPoly', WHERE WHAT IT READS IS OF BULK AT MOST 1048576: true; the input reads as it did. -/
def fnExactStepPolyUptoRow : OpenClaim := { program := "ythoodhdcmckkpaa", sum := "d23b7684c3d13ecc07257cfc2c56b51a21a375826f12f96f5ad03800632ee041", func := "loop.example/differenceengine/laws.FnExactStepPoly", spec := "fnExactStepPoly", apart := false, narrowed := true }
def FnExactStepPolyUptoSaid : Prop := fnExactStepPolyUptoRow.holds Try.pinned (OpenSpec.upto fnExactStepPolySpec)

/-- 'laws.FnExactTurnPoly', WHERE WHAT IT READS IS OF BULK AT MOST 1048576: true; the input reads as it did. -/
def fnExactTurnPolyUptoRow : OpenClaim := { program := "ythoodhdcmckkpaa", sum := "d23b7684c3d13ecc07257cfc2c56b51a21a375826f12f96f5ad03800632ee041", func := "loop.example/differenceengine/laws.FnExactTurnPoly", spec := "fnExactTurnPoly", apart := false, narrowed := true }
def FnExactTurnPolyUptoSaid : Prop := fnExactTurnPolyUptoRow.holds Try.pinned (OpenSpec.upto fnExactTurnPolySpec)

/-- 'laws.FnTrim', WHERE WHAT IT READS IS OF BULK AT MOST 1048576: true; the input reads as it did. -/
def fnTrimUptoRow : OpenClaim := { program := "ythoodhdcmckkpaa", sum := "d23b7684c3d13ecc07257cfc2c56b51a21a375826f12f96f5ad03800632ee041", func := "loop.example/differenceengine/laws.FnTrim", spec := "fnTrim", apart := false, narrowed := true }
def FnTrimUptoSaid : Prop := fnTrimUptoRow.holds Try.pinned (OpenSpec.upto fnTrimSpec)

/-- 'laws.FnExactInterpolate', WHERE WHAT IT READS IS OF BULK AT MOST 1048576: true; the input reads as it did. -/
def fnExactInterpolateUptoRow : OpenClaim := { program := "ythoodhdcmckkpaa", sum := "d23b7684c3d13ecc07257cfc2c56b51a21a375826f12f96f5ad03800632ee041", func := "loop.example/differenceengine/laws.FnExactInterpolate", spec := "fnExactInterpolate", apart := false, narrowed := true }
def FnExactInterpolateUptoSaid : Prop := fnExactInterpolateUptoRow.holds Try.pinned (OpenSpec.upto fnExactInterpolateSpec)

/-- 'laws.FnShiftStep', WHERE WHAT IT READS IS OF BULK AT MOST 1048576: true; the input reads as it did. -/
def fnShiftStepUptoRow : OpenClaim := { program := "ythoodhdcmckkpaa", sum := "d23b7684c3d13ecc07257cfc2c56b51a21a375826f12f96f5ad03800632ee041", func := "loop.example/differenceengine/laws.FnShiftStep", spec := "fnShiftStep", apart := false, narrowed := true }
def FnShiftStepUptoSaid : Prop := fnShiftStepUptoRow.holds Try.pinned (OpenSpec.upto fnShiftStepSpec)

/-- 'laws.FnShift', WHERE WHAT IT READS IS OF BULK AT MOST 1048576: true; the input reads as it did. -/
def fnShiftUptoRow : OpenClaim := { program := "ythoodhdcmckkpaa", sum := "d23b7684c3d13ecc07257cfc2c56b51a21a375826f12f96f5ad03800632ee041", func := "loop.example/differenceengine/laws.FnShift", spec := "fnShift", apart := false, narrowed := true }
def FnShiftUptoSaid : Prop := fnShiftUptoRow.holds Try.pinned (OpenSpec.upto fnShiftSpec)

/-- 'laws.FnAddPolys', WHERE WHAT IT READS IS OF BULK AT MOST 1048576: true; the input reads as it did. -/
def fnAddPolysUptoRow : OpenClaim := { program := "ythoodhdcmckkpaa", sum := "d23b7684c3d13ecc07257cfc2c56b51a21a375826f12f96f5ad03800632ee041", func := "loop.example/differenceengine/laws.FnAddPolys", spec := "fnAddPolys", apart := false, narrowed := true }
def FnAddPolysUptoSaid : Prop := fnAddPolysUptoRow.holds Try.pinned (OpenSpec.upto fnAddPolysSpec)

/-- 'laws.FnDiffTable', WHERE WHAT IT READS IS OF BULK AT MOST 1048576: true; the input reads as it did. -/
def fnDiffTableUptoRow : OpenClaim := { program := "ythoodhdcmckkpaa", sum := "d23b7684c3d13ecc07257cfc2c56b51a21a375826f12f96f5ad03800632ee041", func := "loop.example/differenceengine/laws.FnDiffTable", spec := "fnDiffTable", apart := false, narrowed := true }
def FnDiffTableUptoSaid : Prop := fnDiffTableUptoRow.holds Try.pinned (OpenSpec.upto fnDiffTableSpec)

/-- 'laws.FnPowers', WHERE WHAT IT READS IS OF BULK AT MOST 1048576: true; the input reads as it did. -/
def fnPowersUptoRow : OpenClaim := { program := "ythoodhdcmckkpaa", sum := "d23b7684c3d13ecc07257cfc2c56b51a21a375826f12f96f5ad03800632ee041", func := "loop.example/differenceengine/laws.FnPowers", spec := "fnPowers", apart := false, narrowed := true }
def FnPowersUptoSaid : Prop := fnPowersUptoRow.holds Try.pinned (OpenSpec.upto fnPowersSpec)

/-- 'laws.FnStepTurn', WHERE WHAT IT READS IS OF BULK AT MOST 1048576: true; the input reads as it did. -/
def fnStepTurnUptoRow : OpenClaim := { program := "ythoodhdcmckkpaa", sum := "d23b7684c3d13ecc07257cfc2c56b51a21a375826f12f96f5ad03800632ee041", func := "loop.example/differenceengine/laws.FnStepTurn", spec := "fnStepTurn", apart := false, narrowed := true }
def FnStepTurnUptoSaid : Prop := fnStepTurnUptoRow.holds Try.pinned (OpenSpec.upto fnStepTurnSpec)

/-- 'laws.FnMulDifference', WHERE WHAT IT READS IS OF BULK AT MOST 1048576: true; the input reads as it did. -/
def fnMulDifferenceUptoRow : OpenClaim := { program := "ythoodhdcmckkpaa", sum := "d23b7684c3d13ecc07257cfc2c56b51a21a375826f12f96f5ad03800632ee041", func := "loop.example/differenceengine/laws.FnMulDifference", spec := "fnMulDifference", apart := false, narrowed := true }
def FnMulDifferenceUptoSaid : Prop := fnMulDifferenceUptoRow.holds Try.pinned (OpenSpec.upto fnMulDifferenceSpec)

/-- 'laws.FnMulPolys', WHERE WHAT IT READS IS OF BULK AT MOST 1048576: true; the input reads as it did. -/
def fnMulPolysUptoRow : OpenClaim := { program := "ythoodhdcmckkpaa", sum := "d23b7684c3d13ecc07257cfc2c56b51a21a375826f12f96f5ad03800632ee041", func := "loop.example/differenceengine/laws.FnMulPolys", spec := "fnMulPolys", apart := false, narrowed := true }
def FnMulPolysUptoSaid : Prop := fnMulPolysUptoRow.holds Try.pinned (OpenSpec.upto fnMulPolysSpec)

/-- 'laws.FnInterpolateValues', WHERE WHAT IT READS IS OF BULK AT MOST 1048576: true; the input reads as it did. -/
def fnInterpolateValuesUptoRow : OpenClaim := { program := "ythoodhdcmckkpaa", sum := "d23b7684c3d13ecc07257cfc2c56b51a21a375826f12f96f5ad03800632ee041", func := "loop.example/differenceengine/laws.FnInterpolateValues", spec := "fnInterpolateValues", apart := false, narrowed := true }
def FnInterpolateValuesUptoSaid : Prop := fnInterpolateValuesUptoRow.holds Try.pinned (OpenSpec.upto fnInterpolateValuesSpec)

/-- 'laws.FnLeastDegree', WHERE WHAT IT READS IS OF BULK AT MOST 1048576: true; the input reads as it did. -/
def fnLeastDegreeUptoRow : OpenClaim := { program := "ythoodhdcmckkpaa", sum := "d23b7684c3d13ecc07257cfc2c56b51a21a375826f12f96f5ad03800632ee041", func := "loop.example/differenceengine/laws.FnLeastDegree", spec := "fnLeastDegree", apart := false, narrowed := true }
def FnLeastDegreeUptoSaid : Prop := fnLeastDegreeUptoRow.holds Try.pinned (OpenSpec.upto fnLeastDegreeSpec)

end Rows
end Go.Proofs.Ythoodhdcmckkpaa
