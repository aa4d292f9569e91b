/-
  No cell of these rows narrows 'for every input' (looked for: loops, veiled, ifaces, maps, wideKeys, modest, calm, conditions, laid).
  DERIVED. THE GIVEN ROWS OF THIS SEAT. 17 by the template 'for every input the law returns true; each argument reads behind the call as it read before'; 0 by the template 'total and deterministic' (their statements: YtbjdjhebngeekaaTotals.lean).
  GIVEN WITH THE SEED: the statements are not yours to turn. If you find one false, say at which input.
  Laid BY PROGRAM, IN A SANDBOX (cutbox-rows.mjs): the forced cells as the released guide's own fill.sh prints them over the translation 3bc7772e7f6b9ad8… (all of the seat's roots in one cut). By AI agents, Wed Nov 11 2026. No macro, syntax, notation, axiom, sorry.
-/
import Derived.Test.YtbjdjhebngeekaaChecked
import GoSem.Claim
import GoSem.ClaimJoined
import GoSem.ClaimMapViews
import Derived.JoinedTies
import Derived.KernelRfl
namespace Go.Proofs.Ytbjdjhebngeekaa
/- THE CELL 'sum', in the pinned program and in every row, IS THE sha256 OF THE DUMP (.gsa) THAT YtbjdjhebngeekaaProg.lean LOADS. Nothing in Lean hashes anything: it is a label: what it is worth is what the hold of that sum in a sandbox is worth. -/
noncomputable def Try.pinned : Pinned := { name := "ytbjdjhebngeekaa", sum := "3bc7772e7f6b9ad82d545fca62b19904ebe3d944be4ea2e12fc6cc609fae017b", checked := Try.checked }
namespace Rows
def none {H : Type} : Left H := { results := [], args := [] }

/-- 'laws.FnExactEngineValid': WHATEVER THE INPUT: true; the input reads as it did. -/
def fnExactEngineValidSpec : ChangeSpec := { name := "fnExactEngineValid", fn := fun _ => fun
  | [d] => { results := [.lit (.bool true)], args := [d] }
  | _ => none }
def fnExactEngineValidRow : OpenClaim := { program := "ytbjdjhebngeekaa", sum := "3bc7772e7f6b9ad82d545fca62b19904ebe3d944be4ea2e12fc6cc609fae017b", func := "loop.example/differenceengine/laws.FnExactEngineValid", spec := "fnExactEngineValid", apart := false }
def FnExactEngineValidSaid : Prop := fnExactEngineValidRow.holds Try.pinned (OpenSpec.ofChange fnExactEngineValidSpec)

/-- ITS FALSE NEIGHBOUR: 'it returns false'. Refute it at one input. -/
def fnExactEngineValidWrong : ChangeSpec := { name := "fnExactEngineValid", fn := fun _ => fun
  | [d] => { results := [.lit (.bool false)], args := [d] }
  | _ => none }
def FnExactEngineValidWrongFalsely : Prop := fnExactEngineValidRow.holds Try.pinned (OpenSpec.ofChange fnExactEngineValidWrong)

/-- 'laws.FnExactResultOf': WHATEVER THE INPUT: true; the input reads as it did. -/
def fnExactResultOfSpec : ChangeSpec := { name := "fnExactResultOf", fn := fun _ => fun
  | [d] => { results := [.lit (.bool true)], args := [d] }
  | _ => none }
def fnExactResultOfRow : OpenClaim := { program := "ytbjdjhebngeekaa", sum := "3bc7772e7f6b9ad82d545fca62b19904ebe3d944be4ea2e12fc6cc609fae017b", func := "loop.example/differenceengine/laws.FnExactResultOf", spec := "fnExactResultOf", apart := false }
def FnExactResultOfSaid : Prop := fnExactResultOfRow.holds Try.pinned (OpenSpec.ofChange fnExactResultOfSpec)

/-- ITS FALSE NEIGHBOUR: 'it returns false'. Refute it at one input. -/
def fnExactResultOfWrong : ChangeSpec := { name := "fnExactResultOf", fn := fun _ => fun
  | [d] => { results := [.lit (.bool false)], args := [d] }
  | _ => none }
def FnExactResultOfWrongFalsely : Prop := fnExactResultOfRow.holds Try.pinned (OpenSpec.ofChange fnExactResultOfWrong)

/-- 'laws.FnExactCapacityOf': WHATEVER THE INPUT: true; the input reads as it did. -/
def fnExactCapacityOfSpec : ChangeSpec := { name := "fnExactCapacityOf", fn := fun _ => fun
  | [d1, d2, d3, d4] => { results := [.lit (.bool true)], args := [d1, d2, d3, d4] }
  | _ => none }
def fnExactCapacityOfRow : OpenClaim := { program := "ytbjdjhebngeekaa", sum := "3bc7772e7f6b9ad82d545fca62b19904ebe3d944be4ea2e12fc6cc609fae017b", func := "loop.example/differenceengine/laws.FnExactCapacityOf", spec := "fnExactCapacityOf", apart := false }
def FnExactCapacityOfSaid : Prop := fnExactCapacityOfRow.holds Try.pinned (OpenSpec.ofChange fnExactCapacityOfSpec)

/-- ITS FALSE NEIGHBOUR: 'it returns false'. Refute it at one input. -/
def fnExactCapacityOfWrong : ChangeSpec := { name := "fnExactCapacityOf", fn := fun _ => fun
  | [d1, d2, d3, d4] => { results := [.lit (.bool false)], args := [d1, d2, d3, d4] }
  | _ => none }
def FnExactCapacityOfWrongFalsely : Prop := fnExactCapacityOfRow.holds Try.pinned (OpenSpec.ofChange fnExactCapacityOfWrong)

/-- 'laws.FnExactAddEngines': WHATEVER THE INPUT: true; the input reads as it did. -/
def fnExactAddEnginesSpec : ChangeSpec := { name := "fnExactAddEngines", fn := fun _ => fun
  | [d1, d2] => { results := [.lit (.bool true)], args := [d1, d2] }
  | _ => none }
def fnExactAddEnginesRow : OpenClaim := { program := "ytbjdjhebngeekaa", sum := "3bc7772e7f6b9ad82d545fca62b19904ebe3d944be4ea2e12fc6cc609fae017b", func := "loop.example/differenceengine/laws.FnExactAddEngines", spec := "fnExactAddEngines", apart := false }
def FnExactAddEnginesSaid : Prop := fnExactAddEnginesRow.holds Try.pinned (OpenSpec.ofChange fnExactAddEnginesSpec)

/-- ITS FALSE NEIGHBOUR: 'it returns false'. Refute it at one input. -/
def fnExactAddEnginesWrong : ChangeSpec := { name := "fnExactAddEngines", fn := fun _ => fun
  | [d1, d2] => { results := [.lit (.bool false)], args := [d1, d2] }
  | _ => none }
def FnExactAddEnginesWrongFalsely : Prop := fnExactAddEnginesRow.holds Try.pinned (OpenSpec.ofChange fnExactAddEnginesWrong)

/-- 'laws.FnExactTurnBack': WHATEVER THE INPUT: true; the input reads as it did. -/
def fnExactTurnBackSpec : ChangeSpec := { name := "fnExactTurnBack", fn := fun _ => fun
  | [d] => { results := [.lit (.bool true)], args := [d] }
  | _ => none }
def fnExactTurnBackRow : OpenClaim := { program := "ytbjdjhebngeekaa", sum := "3bc7772e7f6b9ad82d545fca62b19904ebe3d944be4ea2e12fc6cc609fae017b", func := "loop.example/differenceengine/laws.FnExactTurnBack", spec := "fnExactTurnBack", apart := false }
def FnExactTurnBackSaid : Prop := fnExactTurnBackRow.holds Try.pinned (OpenSpec.ofChange fnExactTurnBackSpec)

/-- ITS FALSE NEIGHBOUR: 'it returns false'. Refute it at one input. -/
def fnExactTurnBackWrong : ChangeSpec := { name := "fnExactTurnBack", fn := fun _ => fun
  | [d] => { results := [.lit (.bool false)], args := [d] }
  | _ => none }
def FnExactTurnBackWrongFalsely : Prop := fnExactTurnBackRow.holds Try.pinned (OpenSpec.ofChange fnExactTurnBackWrong)

/-- 'laws.FnExactTurnFirst': WHATEVER THE INPUT: true; the input reads as it did. -/
def fnExactTurnFirstSpec : ChangeSpec := { name := "fnExactTurnFirst", fn := fun _ => fun
  | [d] => { results := [.lit (.bool true)], args := [d] }
  | _ => none }
def fnExactTurnFirstRow : OpenClaim := { program := "ytbjdjhebngeekaa", sum := "3bc7772e7f6b9ad82d545fca62b19904ebe3d944be4ea2e12fc6cc609fae017b", func := "loop.example/differenceengine/laws.FnExactTurnFirst", spec := "fnExactTurnFirst", apart := false }
def FnExactTurnFirstSaid : Prop := fnExactTurnFirstRow.holds Try.pinned (OpenSpec.ofChange fnExactTurnFirstSpec)

/-- ITS FALSE NEIGHBOUR: 'it returns false'. Refute it at one input. -/
def fnExactTurnFirstWrong : ChangeSpec := { name := "fnExactTurnFirst", fn := fun _ => fun
  | [d] => { results := [.lit (.bool false)], args := [d] }
  | _ => none }
def FnExactTurnFirstWrongFalsely : Prop := fnExactTurnFirstRow.holds Try.pinned (OpenSpec.ofChange fnExactTurnFirstWrong)

/-- 'laws.FnExactTurnSecond': WHATEVER THE INPUT: true; the input reads as it did. -/
def fnExactTurnSecondSpec : ChangeSpec := { name := "fnExactTurnSecond", fn := fun _ => fun
  | [d] => { results := [.lit (.bool true)], args := [d] }
  | _ => none }
def fnExactTurnSecondRow : OpenClaim := { program := "ytbjdjhebngeekaa", sum := "3bc7772e7f6b9ad82d545fca62b19904ebe3d944be4ea2e12fc6cc609fae017b", func := "loop.example/differenceengine/laws.FnExactTurnSecond", spec := "fnExactTurnSecond", apart := false }
def FnExactTurnSecondSaid : Prop := fnExactTurnSecondRow.holds Try.pinned (OpenSpec.ofChange fnExactTurnSecondSpec)

/-- ITS FALSE NEIGHBOUR: 'it returns false'. Refute it at one input. -/
def fnExactTurnSecondWrong : ChangeSpec := { name := "fnExactTurnSecond", fn := fun _ => fun
  | [d] => { results := [.lit (.bool false)], args := [d] }
  | _ => none }
def FnExactTurnSecondWrongFalsely : Prop := fnExactTurnSecondRow.holds Try.pinned (OpenSpec.ofChange fnExactTurnSecondWrong)

/-- 'laws.FnExactTurnWhole': WHATEVER THE INPUT: true; the input reads as it did. -/
def fnExactTurnWholeSpec : ChangeSpec := { name := "fnExactTurnWhole", fn := fun _ => fun
  | [d] => { results := [.lit (.bool true)], args := [d] }
  | _ => none }
def fnExactTurnWholeRow : OpenClaim := { program := "ytbjdjhebngeekaa", sum := "3bc7772e7f6b9ad82d545fca62b19904ebe3d944be4ea2e12fc6cc609fae017b", func := "loop.example/differenceengine/laws.FnExactTurnWhole", spec := "fnExactTurnWhole", apart := false }
def FnExactTurnWholeSaid : Prop := fnExactTurnWholeRow.holds Try.pinned (OpenSpec.ofChange fnExactTurnWholeSpec)

/-- ITS FALSE NEIGHBOUR: 'it returns false'. Refute it at one input. -/
def fnExactTurnWholeWrong : ChangeSpec := { name := "fnExactTurnWhole", fn := fun _ => fun
  | [d] => { results := [.lit (.bool false)], args := [d] }
  | _ => none }
def FnExactTurnWholeWrongFalsely : Prop := fnExactTurnWholeRow.holds Try.pinned (OpenSpec.ofChange fnExactTurnWholeWrong)

/-- 'laws.FnExactReadEngine': WHATEVER THE INPUT: true; the input reads as it did. -/
def fnExactReadEngineSpec : ChangeSpec := { name := "fnExactReadEngine", fn := fun _ => fun
  | [d] => { results := [.lit (.bool true)], args := [d] }
  | _ => none }
def fnExactReadEngineRow : OpenClaim := { program := "ytbjdjhebngeekaa", sum := "3bc7772e7f6b9ad82d545fca62b19904ebe3d944be4ea2e12fc6cc609fae017b", func := "loop.example/differenceengine/laws.FnExactReadEngine", spec := "fnExactReadEngine", apart := false }
def FnExactReadEngineSaid : Prop := fnExactReadEngineRow.holds Try.pinned (OpenSpec.ofChange fnExactReadEngineSpec)

/-- ITS FALSE NEIGHBOUR: 'it returns false'. Refute it at one input. -/
def fnExactReadEngineWrong : ChangeSpec := { name := "fnExactReadEngine", fn := fun _ => fun
  | [d] => { results := [.lit (.bool false)], args := [d] }
  | _ => none }
def FnExactReadEngineWrongFalsely : Prop := fnExactReadEngineRow.holds Try.pinned (OpenSpec.ofChange fnExactReadEngineWrong)

/-- 'laws.FnExactTurnHalves': WHATEVER THE INPUT: true; the input reads as it did. -/
def fnExactTurnHalvesSpec : ChangeSpec := { name := "fnExactTurnHalves", fn := fun _ => fun
  | [d] => { results := [.lit (.bool true)], args := [d] }
  | _ => none }
def fnExactTurnHalvesRow : OpenClaim := { program := "ytbjdjhebngeekaa", sum := "3bc7772e7f6b9ad82d545fca62b19904ebe3d944be4ea2e12fc6cc609fae017b", func := "loop.example/differenceengine/laws.FnExactTurnHalves", spec := "fnExactTurnHalves", apart := false }
def FnExactTurnHalvesSaid : Prop := fnExactTurnHalvesRow.holds Try.pinned (OpenSpec.ofChange fnExactTurnHalvesSpec)

/-- ITS FALSE NEIGHBOUR: 'it returns false'. Refute it at one input. -/
def fnExactTurnHalvesWrong : ChangeSpec := { name := "fnExactTurnHalves", fn := fun _ => fun
  | [d] => { results := [.lit (.bool false)], args := [d] }
  | _ => none }
def FnExactTurnHalvesWrongFalsely : Prop := fnExactTurnHalvesRow.holds Try.pinned (OpenSpec.ofChange fnExactTurnHalvesWrong)

/-- 'laws.FnHalfColumns': WHATEVER THE INPUT: true; the input reads as it did. -/
def fnHalfColumnsSpec : ChangeSpec := { name := "fnHalfColumns", fn := fun _ => fun
  | [d] => { results := [.lit (.bool true)], args := [d] }
  | _ => none }
def fnHalfColumnsRow : OpenClaim := { program := "ytbjdjhebngeekaa", sum := "3bc7772e7f6b9ad82d545fca62b19904ebe3d944be4ea2e12fc6cc609fae017b", func := "loop.example/differenceengine/laws.FnHalfColumns", spec := "fnHalfColumns", apart := false }
def FnHalfColumnsSaid : Prop := fnHalfColumnsRow.holds Try.pinned (OpenSpec.ofChange fnHalfColumnsSpec)

/-- ITS FALSE NEIGHBOUR: 'it returns false'. Refute it at one input. -/
def fnHalfColumnsWrong : ChangeSpec := { name := "fnHalfColumns", fn := fun _ => fun
  | [d] => { results := [.lit (.bool false)], args := [d] }
  | _ => none }
def FnHalfColumnsWrongFalsely : Prop := fnHalfColumnsRow.holds Try.pinned (OpenSpec.ofChange fnHalfColumnsWrong)

/-- 'laws.FnTurnBack': WHATEVER THE INPUT: true; the input reads as it did. -/
def fnTurnBackSpec : ChangeSpec := { name := "fnTurnBack", fn := fun _ => fun
  | [d] => { results := [.lit (.bool true)], args := [d] }
  | _ => none }
def fnTurnBackRow : OpenClaim := { program := "ytbjdjhebngeekaa", sum := "3bc7772e7f6b9ad82d545fca62b19904ebe3d944be4ea2e12fc6cc609fae017b", func := "loop.example/differenceengine/laws.FnTurnBack", spec := "fnTurnBack", apart := false }
def FnTurnBackSaid : Prop := fnTurnBackRow.holds Try.pinned (OpenSpec.ofChange fnTurnBackSpec)

/-- ITS FALSE NEIGHBOUR: 'it returns false'. Refute it at one input. -/
def fnTurnBackWrong : ChangeSpec := { name := "fnTurnBack", fn := fun _ => fun
  | [d] => { results := [.lit (.bool false)], args := [d] }
  | _ => none }
def FnTurnBackWrongFalsely : Prop := fnTurnBackRow.holds Try.pinned (OpenSpec.ofChange fnTurnBackWrong)

/-- 'laws.FnTurnColumns': WHATEVER THE INPUT: true; the input reads as it did. -/
def fnTurnColumnsSpec : ChangeSpec := { name := "fnTurnColumns", fn := fun _ => fun
  | [d] => { results := [.lit (.bool true)], args := [d] }
  | _ => none }
def fnTurnColumnsRow : OpenClaim := { program := "ytbjdjhebngeekaa", sum := "3bc7772e7f6b9ad82d545fca62b19904ebe3d944be4ea2e12fc6cc609fae017b", func := "loop.example/differenceengine/laws.FnTurnColumns", spec := "fnTurnColumns", apart := false }
def FnTurnColumnsSaid : Prop := fnTurnColumnsRow.holds Try.pinned (OpenSpec.ofChange fnTurnColumnsSpec)

/-- ITS FALSE NEIGHBOUR: 'it returns false'. Refute it at one input. -/
def fnTurnColumnsWrong : ChangeSpec := { name := "fnTurnColumns", fn := fun _ => fun
  | [d] => { results := [.lit (.bool false)], args := [d] }
  | _ => none }
def FnTurnColumnsWrongFalsely : Prop := fnTurnColumnsRow.holds Try.pinned (OpenSpec.ofChange fnTurnColumnsWrong)

/-- 'laws.FnExactWidenEngine': WHATEVER THE INPUT: true; the input reads as it did. -/
def fnExactWidenEngineSpec : ChangeSpec := { name := "fnExactWidenEngine", fn := fun _ => fun
  | [d1, d2] => { results := [.lit (.bool true)], args := [d1, d2] }
  | _ => none }
def fnExactWidenEngineRow : OpenClaim := { program := "ytbjdjhebngeekaa", sum := "3bc7772e7f6b9ad82d545fca62b19904ebe3d944be4ea2e12fc6cc609fae017b", func := "loop.example/differenceengine/laws.FnExactWidenEngine", spec := "fnExactWidenEngine", apart := false }
def FnExactWidenEngineSaid : Prop := fnExactWidenEngineRow.holds Try.pinned (OpenSpec.ofChange fnExactWidenEngineSpec)

/-- ITS FALSE NEIGHBOUR: 'it returns false'. Refute it at one input. -/
def fnExactWidenEngineWrong : ChangeSpec := { name := "fnExactWidenEngine", fn := fun _ => fun
  | [d1, d2] => { results := [.lit (.bool false)], args := [d1, d2] }
  | _ => none }
def FnExactWidenEngineWrongFalsely : Prop := fnExactWidenEngineRow.holds Try.pinned (OpenSpec.ofChange fnExactWidenEngineWrong)

/-- 'laws.FnExactSetUp': WHATEVER THE INPUT: true; the input reads as it did. -/
def fnExactSetUpSpec : ChangeSpec := { name := "fnExactSetUp", fn := fun _ => fun
  | [d1, d2, d3] => { results := [.lit (.bool true)], args := [d1, d2, d3] }
  | _ => none }
def fnExactSetUpRow : OpenClaim := { program := "ytbjdjhebngeekaa", sum := "3bc7772e7f6b9ad82d545fca62b19904ebe3d944be4ea2e12fc6cc609fae017b", func := "loop.example/differenceengine/laws.FnExactSetUp", spec := "fnExactSetUp", apart := false }
def FnExactSetUpSaid : Prop := fnExactSetUpRow.holds Try.pinned (OpenSpec.ofChange fnExactSetUpSpec)

/-- ITS FALSE NEIGHBOUR: 'it returns false'. Refute it at one input. -/
def fnExactSetUpWrong : ChangeSpec := { name := "fnExactSetUp", fn := fun _ => fun
  | [d1, d2, d3] => { results := [.lit (.bool false)], args := [d1, d2, d3] }
  | _ => none }
def FnExactSetUpWrongFalsely : Prop := fnExactSetUpRow.holds Try.pinned (OpenSpec.ofChange fnExactSetUpWrong)

/-- 'laws.FnExactTurnMany': WHATEVER THE INPUT: true; the input reads as it did. -/
def fnExactTurnManySpec : ChangeSpec := { name := "fnExactTurnMany", fn := fun _ => fun
  | [d1, d2] => { results := [.lit (.bool true)], args := [d1, d2] }
  | _ => none }
def fnExactTurnManyRow : OpenClaim := { program := "ytbjdjhebngeekaa", sum := "3bc7772e7f6b9ad82d545fca62b19904ebe3d944be4ea2e12fc6cc609fae017b", func := "loop.example/differenceengine/laws.FnExactTurnMany", spec := "fnExactTurnMany", apart := false }
def FnExactTurnManySaid : Prop := fnExactTurnManyRow.holds Try.pinned (OpenSpec.ofChange fnExactTurnManySpec)

/-- ITS FALSE NEIGHBOUR: 'it returns false'. Refute it at one input. -/
def fnExactTurnManyWrong : ChangeSpec := { name := "fnExactTurnMany", fn := fun _ => fun
  | [d1, d2] => { results := [.lit (.bool false)], args := [d1, d2] }
  | _ => none }
def FnExactTurnManyWrongFalsely : Prop := fnExactTurnManyRow.holds Try.pinned (OpenSpec.ofChange fnExactTurnManyWrong)

/-- 'laws.FnExactSkewEngine': WHATEVER THE INPUT: true; the input reads as it did. -/
def fnExactSkewEngineSpec : ChangeSpec := { name := "fnExactSkewEngine", fn := fun _ => fun
  | [d] => { results := [.lit (.bool true)], args := [d] }
  | _ => none }
def fnExactSkewEngineRow : OpenClaim := { program := "ytbjdjhebngeekaa", sum := "3bc7772e7f6b9ad82d545fca62b19904ebe3d944be4ea2e12fc6cc609fae017b", func := "loop.example/differenceengine/laws.FnExactSkewEngine", spec := "fnExactSkewEngine", apart := false }
def FnExactSkewEngineSaid : Prop := fnExactSkewEngineRow.holds Try.pinned (OpenSpec.ofChange fnExactSkewEngineSpec)

/-- ITS FALSE NEIGHBOUR: 'it returns false'. Refute it at one input. -/
def fnExactSkewEngineWrong : ChangeSpec := { name := "fnExactSkewEngine", fn := fun _ => fun
  | [d] => { results := [.lit (.bool false)], args := [d] }
  | _ => none }
def FnExactSkewEngineWrongFalsely : Prop := fnExactSkewEngineRow.holds Try.pinned (OpenSpec.ofChange fnExactSkewEngineWrong)

/- THE SECOND FORM. 'bulk': how many values and letters a reading holds, each counted each time it is reached (what is shared counts as often as it is met; a slice's spare places count too). A statement '..UptoSaid' is the law's where the arguments, and the package variables that the reading takes, are together of bulk at most 1048576: NARROWER than '..Said'. Prove '..Said' where nothing that the law and all that it calls make is longer than what came in: it says more and counts as full. Else prove '..UptoSaid'. A law counts once. -/
mutual
def uptoBulk {H : Type} : DataW H → Nat
  | .lit (.string bytes) => bytes.length + 1
  | .lit _ => 1
  | .nil => 1
  | .ptr d => uptoBulk d + 1
  | .slice elems spare => uptoBulkAll elems + uptoBulkAll spare + 1
  | .agg parts => uptoBulkAll parts + 1
  | .iface _ d => uptoBulk d + 1
  | .map entries => uptoBulkEntries entries + 1
  | .held _ => 1
def uptoBulkAll {H : Type} : List (DataW H) → Nat
  | [] => 0
  | d :: r => uptoBulk d + uptoBulkAll r
def uptoBulkEntries {H : Type} : List (Lit × DataW H) → Nat
  | [] => 0
  | x :: r => uptoBulkEntry x + uptoBulkEntries r
def uptoBulkEntry {H : Type} : Lit × DataW H → Nat
  | (.string bytes, d) => bytes.length + uptoBulk d + 1
  | (_, d) => uptoBulk d + 1
 end
def uptoSmall : (H : Type) → List (DataW H) → Bool := fun _ ds => decide (uptoBulkAll ds ≤ 1048576)
def OpenSpec.upto (s : _root_.Go.ChangeSpec) : _root_.Go.OpenSpec := { _root_.Go.OpenSpec.ofChange s with cond := some uptoSmall }

/-- 'laws.FnExactEngineValid', WHERE WHAT IT READS IS OF BULK AT MOST 1048576: true; the input reads as it did. -/
def fnExactEngineValidUptoRow : OpenClaim := { program := "ytbjdjhebngeekaa", sum := "3bc7772e7f6b9ad82d545fca62b19904ebe3d944be4ea2e12fc6cc609fae017b", func := "loop.example/differenceengine/laws.FnExactEngineValid", spec := "fnExactEngineValid", apart := false, narrowed := true }
def FnExactEngineValidUptoSaid : Prop := fnExactEngineValidUptoRow.holds Try.pinned (OpenSpec.upto fnExactEngineValidSpec)

/-- 'laws.FnExactResultOf', WHERE WHAT IT READS IS OF BULK AT MOST 1048576: true; the input reads as it did. -/
def fnExactResultOfUptoRow : OpenClaim := { program := "ytbjdjhebngeekaa", sum := "3bc7772e7f6b9ad82d545fca62b19904ebe3d944be4ea2e12fc6cc609fae017b", func := "loop.example/differenceengine/laws.FnExactResultOf", spec := "fnExactResultOf", apart := false, narrowed := true }
def FnExactResultOfUptoSaid : Prop := fnExactResultOfUptoRow.holds Try.pinned (OpenSpec.upto fnExactResultOfSpec)

/-- 'laws.FnExactCapacityOf', WHERE WHAT IT READS IS OF BULK AT MOST 1048576: true; the input reads as it did. -/
def fnExactCapacityOfUptoRow : OpenClaim := { program := "ytbjdjhebngeekaa", sum := "3bc7772e7f6b9ad82d545fca62b19904ebe3d944be4ea2e12fc6cc609fae017b", func := "loop.example/differenceengine/laws.FnExactCapacityOf", spec := "fnExactCapacityOf", apart := false, narrowed := true }
def FnExactCapacityOfUptoSaid : Prop := fnExactCapacityOfUptoRow.holds Try.pinned (OpenSpec.upto fnExactCapacityOfSpec)

/-- 'laws.FnExactAddEngines', WHERE WHAT IT READS IS OF BULK AT MOST 1048576: true; the input reads as it did. -/
def fnExactAddEnginesUptoRow : OpenClaim := { program := "ytbjdjhebngeekaa", sum := "3bc7772e7f6b9ad82d545fca62b19904ebe3d944be4ea2e12fc6cc609fae017b", func := "loop.example/differenceengine/laws.FnExactAddEngines", spec := "fnExactAddEngines", apart := false, narrowed := true }
def FnExactAddEnginesUptoSaid : Prop := fnExactAddEnginesUptoRow.holds Try.pinned (OpenSpec.upto fnExactAddEnginesSpec)

/-- 'laws.FnExactTurnBack', WHERE WHAT IT READS IS OF BULK AT MOST 1048576: true; the input reads as it did. -/
def fnExactTurnBackUptoRow : OpenClaim := { program := "ytbjdjhebngeekaa", sum := "3bc7772e7f6b9ad82d545fca62b19904ebe3d944be4ea2e12fc6cc609fae017b", func := "loop.example/differenceengine/laws.FnExactTurnBack", spec := "fnExactTurnBack", apart := false, narrowed := true }
def FnExactTurnBackUptoSaid : Prop := fnExactTurnBackUptoRow.holds Try.pinned (OpenSpec.upto fnExactTurnBackSpec)

/-- 'laws.FnExactTurnFirst', WHERE WHAT IT READS IS OF BULK AT MOST 1048576: true; the input reads as it did. -/
def fnExactTurnFirstUptoRow : OpenClaim := { program := "ytbjdjhebngeekaa", sum := "3bc7772e7f6b9ad82d545fca62b19904ebe3d944be4ea2e12fc6cc609fae017b", func := "loop.example/differenceengine/laws.FnExactTurnFirst", spec := "fnExactTurnFirst", apart := false, narrowed := true }
def FnExactTurnFirstUptoSaid : Prop := fnExactTurnFirstUptoRow.holds Try.pinned (OpenSpec.upto fnExactTurnFirstSpec)

/-- 'laws.FnExactTurnSecond', WHERE WHAT IT READS IS OF BULK AT MOST 1048576: true; the input reads as it did. -/
def fnExactTurnSecondUptoRow : OpenClaim := { program := "ytbjdjhebngeekaa", sum := "3bc7772e7f6b9ad82d545fca62b19904ebe3d944be4ea2e12fc6cc609fae017b", func := "loop.example/differenceengine/laws.FnExactTurnSecond", spec := "fnExactTurnSecond", apart := false, narrowed := true }
def FnExactTurnSecondUptoSaid : Prop := fnExactTurnSecondUptoRow.holds Try.pinned (OpenSpec.upto fnExactTurnSecondSpec)

/-- 'laws.FnExactTurnWhole', WHERE WHAT IT READS IS OF BULK AT MOST 1048576: true; the input reads as it did. -/
def fnExactTurnWholeUptoRow : OpenClaim := { program := "ytbjdjhebngeekaa", sum := "3bc7772e7f6b9ad82d545fca62b19904ebe3d944be4ea2e12fc6cc609fae017b", func := "loop.example/differenceengine/laws.FnExactTurnWhole", spec := "fnExactTurnWhole", apart := false, narrowed := true }
def FnExactTurnWholeUptoSaid : Prop := fnExactTurnWholeUptoRow.holds Try.pinned (OpenSpec.upto fnExactTurnWholeSpec)

/-- 'laws.FnExactReadEngine', WHERE WHAT IT READS IS OF BULK AT MOST 1048576: true; the input reads as it did. -/
def fnExactReadEngineUptoRow : OpenClaim := { program := "ytbjdjhebngeekaa", sum := "3bc7772e7f6b9ad82d545fca62b19904ebe3d944be4ea2e12fc6cc609fae017b", func := "loop.example/differenceengine/laws.FnExactReadEngine", spec := "fnExactReadEngine", apart := false, narrowed := true }
def FnExactReadEngineUptoSaid : Prop := fnExactReadEngineUptoRow.holds Try.pinned (OpenSpec.upto fnExactReadEngineSpec)

/-- 'laws.FnExactTurnHalves', WHERE WHAT IT READS IS OF BULK AT MOST 1048576: true; the input reads as it did. -/
def fnExactTurnHalvesUptoRow : OpenClaim := { program := "ytbjdjhebngeekaa", sum := "3bc7772e7f6b9ad82d545fca62b19904ebe3d944be4ea2e12fc6cc609fae017b", func := "loop.example/differenceengine/laws.FnExactTurnHalves", spec := "fnExactTurnHalves", apart := false, narrowed := true }
def FnExactTurnHalvesUptoSaid : Prop := fnExactTurnHalvesUptoRow.holds Try.pinned (OpenSpec.upto fnExactTurnHalvesSpec)

/-- 'laws.FnHalfColumns', WHERE WHAT IT READS IS OF BULK AT MOST 1048576: true; the input reads as it did. -/
def fnHalfColumnsUptoRow : OpenClaim := { program := "ytbjdjhebngeekaa", sum := "3bc7772e7f6b9ad82d545fca62b19904ebe3d944be4ea2e12fc6cc609fae017b", func := "loop.example/differenceengine/laws.FnHalfColumns", spec := "fnHalfColumns", apart := false, narrowed := true }
def FnHalfColumnsUptoSaid : Prop := fnHalfColumnsUptoRow.holds Try.pinned (OpenSpec.upto fnHalfColumnsSpec)

/-- 'laws.FnTurnBack', WHERE WHAT IT READS IS OF BULK AT MOST 1048576: true; the input reads as it did. -/
def fnTurnBackUptoRow : OpenClaim := { program := "ytbjdjhebngeekaa", sum := "3bc7772e7f6b9ad82d545fca62b19904ebe3d944be4ea2e12fc6cc609fae017b", func := "loop.example/differenceengine/laws.FnTurnBack", spec := "fnTurnBack", apart := false, narrowed := true }
def FnTurnBackUptoSaid : Prop := fnTurnBackUptoRow.holds Try.pinned (OpenSpec.upto fnTurnBackSpec)

/-- 'laws.FnTurnColumns', WHERE WHAT IT READS IS OF BULK AT MOST 1048576: true; the input reads as it did. -/
def fnTurnColumnsUptoRow : OpenClaim := { program := "ytbjdjhebngeekaa", sum := "3bc7772e7f6b9ad82d545fca62b19904ebe3d944be4ea2e12fc6cc609fae017b", func := "loop.example/differenceengine/laws.FnTurnColumns", spec := "fnTurnColumns", apart := false, narrowed := true }
def FnTurnColumnsUptoSaid : Prop := fnTurnColumnsUptoRow.holds Try.pinned (OpenSpec.upto fnTurnColumnsSpec)

/-- 'laws.FnExactWidenEngine', WHERE WHAT IT READS IS OF BULK AT MOST 1048576: true; the input reads as it did. -/
def fnExactWidenEngineUptoRow : OpenClaim := { program := "ytbjdjhebngeekaa", sum := "3bc7772e7f6b9ad82d545fca62b19904ebe3d944be4ea2e12fc6cc609fae017b", func := "loop.example/differenceengine/laws.FnExactWidenEngine", spec := "fnExactWidenEngine", apart := false, narrowed := true }
def FnExactWidenEngineUptoSaid : Prop := fnExactWidenEngineUptoRow.holds Try.pinned (OpenSpec.upto fnExactWidenEngineSpec)

/-- 'laws.FnExactSetUp', WHERE WHAT IT READS IS OF BULK AT MOST 1048576: true; the input reads as it did. -/
def fnExactSetUpUptoRow : OpenClaim := { program := "ytbjdjhebngeekaa", sum := "3bc7772e7f6b9ad82d545fca62b19904ebe3d944be4ea2e12fc6cc609fae017b", func := "loop.example/differenceengine/laws.FnExactSetUp", spec := "fnExactSetUp", apart := false, narrowed := true }
def FnExactSetUpUptoSaid : Prop := fnExactSetUpUptoRow.holds Try.pinned (OpenSpec.upto fnExactSetUpSpec)

/-- 'laws.FnExactTurnMany', WHERE WHAT IT READS IS OF BULK AT MOST 1048576: true; the input reads as it did. -/
def fnExactTurnManyUptoRow : OpenClaim := { program := "ytbjdjhebngeekaa", sum := "3bc7772e7f6b9ad82d545fca62b19904ebe3d944be4ea2e12fc6cc609fae017b", func := "loop.example/differenceengine/laws.FnExactTurnMany", spec := "fnExactTurnMany", apart := false, narrowed := true }
def FnExactTurnManyUptoSaid : Prop := fnExactTurnManyUptoRow.holds Try.pinned (OpenSpec.upto fnExactTurnManySpec)

/-- 'laws.FnExactSkewEngine', WHERE WHAT IT READS IS OF BULK AT MOST 1048576: true; the input reads as it did. -/
def fnExactSkewEngineUptoRow : OpenClaim := { program := "ytbjdjhebngeekaa", sum := "3bc7772e7f6b9ad82d545fca62b19904ebe3d944be4ea2e12fc6cc609fae017b", func := "loop.example/differenceengine/laws.FnExactSkewEngine", spec := "fnExactSkewEngine", apart := false, narrowed := true }
def FnExactSkewEngineUptoSaid : Prop := fnExactSkewEngineUptoRow.holds Try.pinned (OpenSpec.upto fnExactSkewEngineSpec)

end Rows
end Go.Proofs.Ytbjdjhebngeekaa
