/-
  No cell of these rows narrows 'for every input' (looked for: loops, veiled, ifaces, maps, wideKeys, modest, calm, conditions, laid).
  DERIVED. THE GIVEN ROWS OF THIS SEAT. 17 by the template 'for every input the law returns true; each argument reads behind the call as it read before'; 0 by the template 'total and deterministic' (their statements: YtcalheieakppmaaTotals.lean).
  GIVEN WITH THE SEED: the statements are not yours to turn. If you find one false, say at which input.
  Laid BY PROGRAM, IN A SANDBOX (cutbox-rows.mjs): the forced cells as the released guide's own fill.sh prints them over the translation 4aca6f20fc504587… (all of the seat's roots in one cut). By AI agents, Wed Nov 11 2026. No macro, syntax, notation, axiom, sorry.
-/
import Derived.Test.YtcalheieakppmaaChecked
import GoSem.Claim
import GoSem.ClaimJoined
import GoSem.ClaimMapViews
import Derived.JoinedTies
import Derived.KernelRfl
namespace Go.Proofs.Ytcalheieakppmaa
/- THE CELL 'sum', in the pinned program and in every row, IS THE sha256 OF THE DUMP (.gsa) THAT YtcalheieakppmaaProg.lean LOADS. Nothing in Lean hashes anything: it is a label: what it is worth is what the hold of that sum in a sandbox is worth. -/
noncomputable def Try.pinned : Pinned := { name := "ytcalheieakppmaa", sum := "4aca6f20fc504587dc6915b7369deba30e05c3b849fa455f97bf035c1dbe9d96", checked := Try.checked }
namespace Rows
def none {H : Type} : Left H := { results := [], args := [] }

/-- 'laws.FnExactCapacityOf': WHATEVER THE INPUT: true; the input reads as it did. -/
def fnExactCapacityOfSpec : ChangeSpec := { name := "fnExactCapacityOf", fn := fun _ => fun
  | [d1, d2, d3, d4] => { results := [.lit (.bool true)], args := [d1, d2, d3, d4] }
  | _ => none }
def fnExactCapacityOfRow : OpenClaim := { program := "ytcalheieakppmaa", sum := "4aca6f20fc504587dc6915b7369deba30e05c3b849fa455f97bf035c1dbe9d96", func := "loop.example/differenceengine/laws.FnExactCapacityOf", spec := "fnExactCapacityOf", apart := false }
def FnExactCapacityOfSaid : Prop := fnExactCapacityOfRow.holds Try.pinned (OpenSpec.ofChange fnExactCapacityOfSpec)

/-- ITS FALSE NEIGHBOUR: 'it returns false'. Refute it at one input. -/
def fnExactCapacityOfWrong : ChangeSpec := { name := "fnExactCapacityOf", fn := fun _ => fun
  | [d1, d2, d3, d4] => { results := [.lit (.bool false)], args := [d1, d2, d3, d4] }
  | _ => none }
def FnExactCapacityOfWrongFalsely : Prop := fnExactCapacityOfRow.holds Try.pinned (OpenSpec.ofChange fnExactCapacityOfWrong)

/-- 'laws.FnExactAddEngines': WHATEVER THE INPUT: true; the input reads as it did. -/
def fnExactAddEnginesSpec : ChangeSpec := { name := "fnExactAddEngines", fn := fun _ => fun
  | [d1, d2] => { results := [.lit (.bool true)], args := [d1, d2] }
  | _ => none }
def fnExactAddEnginesRow : OpenClaim := { program := "ytcalheieakppmaa", sum := "4aca6f20fc504587dc6915b7369deba30e05c3b849fa455f97bf035c1dbe9d96", func := "loop.example/differenceengine/laws.FnExactAddEngines", spec := "fnExactAddEngines", apart := false }
def FnExactAddEnginesSaid : Prop := fnExactAddEnginesRow.holds Try.pinned (OpenSpec.ofChange fnExactAddEnginesSpec)

/-- ITS FALSE NEIGHBOUR: 'it returns false'. Refute it at one input. -/
def fnExactAddEnginesWrong : ChangeSpec := { name := "fnExactAddEngines", fn := fun _ => fun
  | [d1, d2] => { results := [.lit (.bool false)], args := [d1, d2] }
  | _ => none }
def FnExactAddEnginesWrongFalsely : Prop := fnExactAddEnginesRow.holds Try.pinned (OpenSpec.ofChange fnExactAddEnginesWrong)

/-- 'laws.FnExactReadEngine': WHATEVER THE INPUT: true; the input reads as it did. -/
def fnExactReadEngineSpec : ChangeSpec := { name := "fnExactReadEngine", fn := fun _ => fun
  | [d] => { results := [.lit (.bool true)], args := [d] }
  | _ => none }
def fnExactReadEngineRow : OpenClaim := { program := "ytcalheieakppmaa", sum := "4aca6f20fc504587dc6915b7369deba30e05c3b849fa455f97bf035c1dbe9d96", func := "loop.example/differenceengine/laws.FnExactReadEngine", spec := "fnExactReadEngine", apart := false }
def FnExactReadEngineSaid : Prop := fnExactReadEngineRow.holds Try.pinned (OpenSpec.ofChange fnExactReadEngineSpec)

/-- ITS FALSE NEIGHBOUR: 'it returns false'. Refute it at one input. -/
def fnExactReadEngineWrong : ChangeSpec := { name := "fnExactReadEngine", fn := fun _ => fun
  | [d] => { results := [.lit (.bool false)], args := [d] }
  | _ => none }
def FnExactReadEngineWrongFalsely : Prop := fnExactReadEngineRow.holds Try.pinned (OpenSpec.ofChange fnExactReadEngineWrong)

/-- 'laws.FnExactWidenEngine': WHATEVER THE INPUT: true; the input reads as it did. -/
def fnExactWidenEngineSpec : ChangeSpec := { name := "fnExactWidenEngine", fn := fun _ => fun
  | [d1, d2] => { results := [.lit (.bool true)], args := [d1, d2] }
  | _ => none }
def fnExactWidenEngineRow : OpenClaim := { program := "ytcalheieakppmaa", sum := "4aca6f20fc504587dc6915b7369deba30e05c3b849fa455f97bf035c1dbe9d96", func := "loop.example/differenceengine/laws.FnExactWidenEngine", spec := "fnExactWidenEngine", apart := false }
def FnExactWidenEngineSaid : Prop := fnExactWidenEngineRow.holds Try.pinned (OpenSpec.ofChange fnExactWidenEngineSpec)

/-- ITS FALSE NEIGHBOUR: 'it returns false'. Refute it at one input. -/
def fnExactWidenEngineWrong : ChangeSpec := { name := "fnExactWidenEngine", fn := fun _ => fun
  | [d1, d2] => { results := [.lit (.bool false)], args := [d1, d2] }
  | _ => none }
def FnExactWidenEngineWrongFalsely : Prop := fnExactWidenEngineRow.holds Try.pinned (OpenSpec.ofChange fnExactWidenEngineWrong)

/-- 'laws.FnExactSetUp': WHATEVER THE INPUT: true; the input reads as it did. -/
def fnExactSetUpSpec : ChangeSpec := { name := "fnExactSetUp", fn := fun _ => fun
  | [d1, d2, d3] => { results := [.lit (.bool true)], args := [d1, d2, d3] }
  | _ => none }
def fnExactSetUpRow : OpenClaim := { program := "ytcalheieakppmaa", sum := "4aca6f20fc504587dc6915b7369deba30e05c3b849fa455f97bf035c1dbe9d96", func := "loop.example/differenceengine/laws.FnExactSetUp", spec := "fnExactSetUp", apart := false }
def FnExactSetUpSaid : Prop := fnExactSetUpRow.holds Try.pinned (OpenSpec.ofChange fnExactSetUpSpec)

/-- ITS FALSE NEIGHBOUR: 'it returns false'. Refute it at one input. -/
def fnExactSetUpWrong : ChangeSpec := { name := "fnExactSetUp", fn := fun _ => fun
  | [d1, d2, d3] => { results := [.lit (.bool false)], args := [d1, d2, d3] }
  | _ => none }
def FnExactSetUpWrongFalsely : Prop := fnExactSetUpRow.holds Try.pinned (OpenSpec.ofChange fnExactSetUpWrong)

/-- 'laws.FnExactRunEngine': WHATEVER THE INPUT: true; the input reads as it did. -/
def fnExactRunEngineSpec : ChangeSpec := { name := "fnExactRunEngine", fn := fun _ => fun
  | [d1, d2] => { results := [.lit (.bool true)], args := [d1, d2] }
  | _ => none }
def fnExactRunEngineRow : OpenClaim := { program := "ytcalheieakppmaa", sum := "4aca6f20fc504587dc6915b7369deba30e05c3b849fa455f97bf035c1dbe9d96", func := "loop.example/differenceengine/laws.FnExactRunEngine", spec := "fnExactRunEngine", unfollowed := true, recurses := true, apart := false }
def FnExactRunEngineSaid : Prop := fnExactRunEngineRow.holds Try.pinned (OpenSpec.ofChange fnExactRunEngineSpec)

/-- ITS FALSE NEIGHBOUR: 'it returns false'. Refute it at one input. -/
def fnExactRunEngineWrong : ChangeSpec := { name := "fnExactRunEngine", fn := fun _ => fun
  | [d1, d2] => { results := [.lit (.bool false)], args := [d1, d2] }
  | _ => none }
def FnExactRunEngineWrongFalsely : Prop := fnExactRunEngineRow.holds Try.pinned (OpenSpec.ofChange fnExactRunEngineWrong)

/-- 'laws.FnExactUnskewEngine': WHATEVER THE INPUT: true; the input reads as it did. -/
def fnExactUnskewEngineSpec : ChangeSpec := { name := "fnExactUnskewEngine", fn := fun _ => fun
  | [d] => { results := [.lit (.bool true)], args := [d] }
  | _ => none }
def fnExactUnskewEngineRow : OpenClaim := { program := "ytcalheieakppmaa", sum := "4aca6f20fc504587dc6915b7369deba30e05c3b849fa455f97bf035c1dbe9d96", func := "loop.example/differenceengine/laws.FnExactUnskewEngine", spec := "fnExactUnskewEngine", apart := false }
def FnExactUnskewEngineSaid : Prop := fnExactUnskewEngineRow.holds Try.pinned (OpenSpec.ofChange fnExactUnskewEngineSpec)

/-- ITS FALSE NEIGHBOUR: 'it returns false'. Refute it at one input. -/
def fnExactUnskewEngineWrong : ChangeSpec := { name := "fnExactUnskewEngine", fn := fun _ => fun
  | [d] => { results := [.lit (.bool false)], args := [d] }
  | _ => none }
def FnExactUnskewEngineWrongFalsely : Prop := fnExactUnskewEngineRow.holds Try.pinned (OpenSpec.ofChange fnExactUnskewEngineWrong)

/-- 'laws.FnExactRunHalves': WHATEVER THE INPUT: true; the input reads as it did. -/
def fnExactRunHalvesSpec : ChangeSpec := { name := "fnExactRunHalves", fn := fun _ => fun
  | [d1, d2] => { results := [.lit (.bool true)], args := [d1, d2] }
  | _ => none }
def fnExactRunHalvesRow : OpenClaim := { program := "ytcalheieakppmaa", sum := "4aca6f20fc504587dc6915b7369deba30e05c3b849fa455f97bf035c1dbe9d96", func := "loop.example/differenceengine/laws.FnExactRunHalves", spec := "fnExactRunHalves", unfollowed := true, recurses := true, apart := false }
def FnExactRunHalvesSaid : Prop := fnExactRunHalvesRow.holds Try.pinned (OpenSpec.ofChange fnExactRunHalvesSpec)

/-- ITS FALSE NEIGHBOUR: 'it returns false'. Refute it at one input. -/
def fnExactRunHalvesWrong : ChangeSpec := { name := "fnExactRunHalves", fn := fun _ => fun
  | [d1, d2] => { results := [.lit (.bool false)], args := [d1, d2] }
  | _ => none }
def FnExactRunHalvesWrongFalsely : Prop := fnExactRunHalvesRow.holds Try.pinned (OpenSpec.ofChange fnExactRunHalvesWrong)

/-- 'laws.FnDiffTable': WHATEVER THE INPUT: true; the input reads as it did. -/
def fnDiffTableSpec : ChangeSpec := { name := "fnDiffTable", fn := fun _ => fun
  | [d] => { results := [.lit (.bool true)], args := [d] }
  | _ => none }
def fnDiffTableRow : OpenClaim := { program := "ytcalheieakppmaa", sum := "4aca6f20fc504587dc6915b7369deba30e05c3b849fa455f97bf035c1dbe9d96", func := "loop.example/differenceengine/laws.FnDiffTable", spec := "fnDiffTable", apart := false }
def FnDiffTableSaid : Prop := fnDiffTableRow.holds Try.pinned (OpenSpec.ofChange fnDiffTableSpec)

/-- ITS FALSE NEIGHBOUR: 'it returns false'. Refute it at one input. -/
def fnDiffTableWrong : ChangeSpec := { name := "fnDiffTable", fn := fun _ => fun
  | [d] => { results := [.lit (.bool false)], args := [d] }
  | _ => none }
def FnDiffTableWrongFalsely : Prop := fnDiffTableRow.holds Try.pinned (OpenSpec.ofChange fnDiffTableWrong)

/-- 'laws.FnHalfColumns': WHATEVER THE INPUT: true; the input reads as it did. -/
def fnHalfColumnsSpec : ChangeSpec := { name := "fnHalfColumns", fn := fun _ => fun
  | [d] => { results := [.lit (.bool true)], args := [d] }
  | _ => none }
def fnHalfColumnsRow : OpenClaim := { program := "ytcalheieakppmaa", sum := "4aca6f20fc504587dc6915b7369deba30e05c3b849fa455f97bf035c1dbe9d96", func := "loop.example/differenceengine/laws.FnHalfColumns", spec := "fnHalfColumns", apart := false }
def FnHalfColumnsSaid : Prop := fnHalfColumnsRow.holds Try.pinned (OpenSpec.ofChange fnHalfColumnsSpec)

/-- ITS FALSE NEIGHBOUR: 'it returns false'. Refute it at one input. -/
def fnHalfColumnsWrong : ChangeSpec := { name := "fnHalfColumns", fn := fun _ => fun
  | [d] => { results := [.lit (.bool false)], args := [d] }
  | _ => none }
def FnHalfColumnsWrongFalsely : Prop := fnHalfColumnsRow.holds Try.pinned (OpenSpec.ofChange fnHalfColumnsWrong)

/-- 'laws.FnTurnBack': WHATEVER THE INPUT: true; the input reads as it did. -/
def fnTurnBackSpec : ChangeSpec := { name := "fnTurnBack", fn := fun _ => fun
  | [d] => { results := [.lit (.bool true)], args := [d] }
  | _ => none }
def fnTurnBackRow : OpenClaim := { program := "ytcalheieakppmaa", sum := "4aca6f20fc504587dc6915b7369deba30e05c3b849fa455f97bf035c1dbe9d96", func := "loop.example/differenceengine/laws.FnTurnBack", spec := "fnTurnBack", apart := false }
def FnTurnBackSaid : Prop := fnTurnBackRow.holds Try.pinned (OpenSpec.ofChange fnTurnBackSpec)

/-- ITS FALSE NEIGHBOUR: 'it returns false'. Refute it at one input. -/
def fnTurnBackWrong : ChangeSpec := { name := "fnTurnBack", fn := fun _ => fun
  | [d] => { results := [.lit (.bool false)], args := [d] }
  | _ => none }
def FnTurnBackWrongFalsely : Prop := fnTurnBackRow.holds Try.pinned (OpenSpec.ofChange fnTurnBackWrong)

/-- 'laws.FnTurnColumns': WHATEVER THE INPUT: true; the input reads as it did. -/
def fnTurnColumnsSpec : ChangeSpec := { name := "fnTurnColumns", fn := fun _ => fun
  | [d] => { results := [.lit (.bool true)], args := [d] }
  | _ => none }
def fnTurnColumnsRow : OpenClaim := { program := "ytcalheieakppmaa", sum := "4aca6f20fc504587dc6915b7369deba30e05c3b849fa455f97bf035c1dbe9d96", func := "loop.example/differenceengine/laws.FnTurnColumns", spec := "fnTurnColumns", apart := false }
def FnTurnColumnsSaid : Prop := fnTurnColumnsRow.holds Try.pinned (OpenSpec.ofChange fnTurnColumnsSpec)

/-- ITS FALSE NEIGHBOUR: 'it returns false'. Refute it at one input. -/
def fnTurnColumnsWrong : ChangeSpec := { name := "fnTurnColumns", fn := fun _ => fun
  | [d] => { results := [.lit (.bool false)], args := [d] }
  | _ => none }
def FnTurnColumnsWrongFalsely : Prop := fnTurnColumnsRow.holds Try.pinned (OpenSpec.ofChange fnTurnColumnsWrong)

/-- 'laws.FnTurnMany': WHATEVER THE INPUT: true; the input reads as it did. -/
def fnTurnManySpec : ChangeSpec := { name := "fnTurnMany", fn := fun _ => fun
  | [d1, d2] => { results := [.lit (.bool true)], args := [d1, d2] }
  | _ => none }
def fnTurnManyRow : OpenClaim := { program := "ytcalheieakppmaa", sum := "4aca6f20fc504587dc6915b7369deba30e05c3b849fa455f97bf035c1dbe9d96", func := "loop.example/differenceengine/laws.FnTurnMany", spec := "fnTurnMany", apart := false }
def FnTurnManySaid : Prop := fnTurnManyRow.holds Try.pinned (OpenSpec.ofChange fnTurnManySpec)

/-- ITS FALSE NEIGHBOUR: 'it returns false'. Refute it at one input. -/
def fnTurnManyWrong : ChangeSpec := { name := "fnTurnMany", fn := fun _ => fun
  | [d1, d2] => { results := [.lit (.bool false)], args := [d1, d2] }
  | _ => none }
def FnTurnManyWrongFalsely : Prop := fnTurnManyRow.holds Try.pinned (OpenSpec.ofChange fnTurnManyWrong)

/-- 'laws.FnAddEngines': WHATEVER THE INPUT: true; the input reads as it did. -/
def fnAddEnginesSpec : ChangeSpec := { name := "fnAddEngines", fn := fun _ => fun
  | [d1, d2] => { results := [.lit (.bool true)], args := [d1, d2] }
  | _ => none }
def fnAddEnginesRow : OpenClaim := { program := "ytcalheieakppmaa", sum := "4aca6f20fc504587dc6915b7369deba30e05c3b849fa455f97bf035c1dbe9d96", func := "loop.example/differenceengine/laws.FnAddEngines", spec := "fnAddEngines", apart := false }
def FnAddEnginesSaid : Prop := fnAddEnginesRow.holds Try.pinned (OpenSpec.ofChange fnAddEnginesSpec)

/-- ITS FALSE NEIGHBOUR: 'it returns false'. Refute it at one input. -/
def fnAddEnginesWrong : ChangeSpec := { name := "fnAddEngines", fn := fun _ => fun
  | [d1, d2] => { results := [.lit (.bool false)], args := [d1, d2] }
  | _ => none }
def FnAddEnginesWrongFalsely : Prop := fnAddEnginesRow.holds Try.pinned (OpenSpec.ofChange fnAddEnginesWrong)

/-- 'laws.FnUnskewForth': WHATEVER THE INPUT: true; the input reads as it did. -/
def fnUnskewForthSpec : ChangeSpec := { name := "fnUnskewForth", fn := fun _ => fun
  | [d] => { results := [.lit (.bool true)], args := [d] }
  | _ => none }
def fnUnskewForthRow : OpenClaim := { program := "ytcalheieakppmaa", sum := "4aca6f20fc504587dc6915b7369deba30e05c3b849fa455f97bf035c1dbe9d96", func := "loop.example/differenceengine/laws.FnUnskewForth", spec := "fnUnskewForth", apart := false }
def FnUnskewForthSaid : Prop := fnUnskewForthRow.holds Try.pinned (OpenSpec.ofChange fnUnskewForthSpec)

/-- ITS FALSE NEIGHBOUR: 'it returns false'. Refute it at one input. -/
def fnUnskewForthWrong : ChangeSpec := { name := "fnUnskewForth", fn := fun _ => fun
  | [d] => { results := [.lit (.bool false)], args := [d] }
  | _ => none }
def FnUnskewForthWrongFalsely : Prop := fnUnskewForthRow.holds Try.pinned (OpenSpec.ofChange fnUnskewForthWrong)

/-- 'laws.FnHalves': WHATEVER THE INPUT: true; the input reads as it did. -/
def fnHalvesSpec : ChangeSpec := { name := "fnHalves", fn := fun _ => fun
  | [d] => { results := [.lit (.bool true)], args := [d] }
  | _ => none }
def fnHalvesRow : OpenClaim := { program := "ytcalheieakppmaa", sum := "4aca6f20fc504587dc6915b7369deba30e05c3b849fa455f97bf035c1dbe9d96", func := "loop.example/differenceengine/laws.FnHalves", spec := "fnHalves", apart := false }
def FnHalvesSaid : Prop := fnHalvesRow.holds Try.pinned (OpenSpec.ofChange fnHalvesSpec)

/-- ITS FALSE NEIGHBOUR: 'it returns false'. Refute it at one input. -/
def fnHalvesWrong : ChangeSpec := { name := "fnHalves", fn := fun _ => fun
  | [d] => { results := [.lit (.bool false)], args := [d] }
  | _ => none }
def FnHalvesWrongFalsely : Prop := fnHalvesRow.holds Try.pinned (OpenSpec.ofChange fnHalvesWrong)

/-- 'laws.FnSkewBack': WHATEVER THE INPUT: true; the input reads as it did. -/
def fnSkewBackSpec : ChangeSpec := { name := "fnSkewBack", fn := fun _ => fun
  | [d] => { results := [.lit (.bool true)], args := [d] }
  | _ => none }
def fnSkewBackRow : OpenClaim := { program := "ytcalheieakppmaa", sum := "4aca6f20fc504587dc6915b7369deba30e05c3b849fa455f97bf035c1dbe9d96", func := "loop.example/differenceengine/laws.FnSkewBack", spec := "fnSkewBack", apart := false }
def FnSkewBackSaid : Prop := fnSkewBackRow.holds Try.pinned (OpenSpec.ofChange fnSkewBackSpec)

/-- ITS FALSE NEIGHBOUR: 'it returns false'. Refute it at one input. -/
def fnSkewBackWrong : ChangeSpec := { name := "fnSkewBack", fn := fun _ => fun
  | [d] => { results := [.lit (.bool false)], args := [d] }
  | _ => none }
def FnSkewBackWrongFalsely : Prop := fnSkewBackRow.holds Try.pinned (OpenSpec.ofChange fnSkewBackWrong)

/- THE SECOND FORM. 'bulk': how many values and letters a reading holds, each counted each time it is reached (what is shared counts as often as it is met; a slice's spare places count too). A statement '..UptoSaid' is the law's where the arguments, and the package variables that the reading takes, are together of bulk at most 1048576: NARROWER than '..Said'. Prove '..Said' where nothing that the law and all that it calls make is longer than what came in: it says more and counts as full. Else prove '..UptoSaid'. A law counts once. -/
mutual
def uptoBulk {H : Type} : DataW H → Nat
  | .lit (.string bytes) => bytes.length + 1
  | .lit _ => 1
  | .nil => 1
  | .ptr d => uptoBulk d + 1
  | .slice elems spare => uptoBulkAll elems + uptoBulkAll spare + 1
  | .agg parts => uptoBulkAll parts + 1
  | .iface _ d => uptoBulk d + 1
  | .map entries => uptoBulkEntries entries + 1
  | .held _ => 1
def uptoBulkAll {H : Type} : List (DataW H) → Nat
  | [] => 0
  | d :: r => uptoBulk d + uptoBulkAll r
def uptoBulkEntries {H : Type} : List (Lit × DataW H) → Nat
  | [] => 0
  | x :: r => uptoBulkEntry x + uptoBulkEntries r
def uptoBulkEntry {H : Type} : Lit × DataW H → Nat
  | (.string bytes, d) => bytes.length + uptoBulk d + 1
  | (_, d) => uptoBulk d + 1
 end
def uptoSmall : (H : Type) → List (DataW H) → Bool := fun _ ds => decide (uptoBulkAll ds ≤ 1048576)
def OpenSpec.upto (s : _root_.Go.ChangeSpec) : _root_.Go.OpenSpec := { _root_.Go.OpenSpec.ofChange s with cond := some uptoSmall }

/-- 'laws.FnExactCapacityOf', WHERE WHAT IT READS IS OF BULK AT MOST 1048576: true; the input reads as it did. -/
def fnExactCapacityOfUptoRow : OpenClaim := { program := "ytcalheieakppmaa", sum := "4aca6f20fc504587dc6915b7369deba30e05c3b849fa455f97bf035c1dbe9d96", func := "loop.example/differenceengine/laws.FnExactCapacityOf", spec := "fnExactCapacityOf", apart := false, narrowed := true }
def FnExactCapacityOfUptoSaid : Prop := fnExactCapacityOfUptoRow.holds Try.pinned (OpenSpec.upto fnExactCapacityOfSpec)

/-- 'laws.FnExactAddEngines', WHERE WHAT IT READS IS OF BULK AT MOST 1048576: true; the input reads as it did. -/
def fnExactAddEnginesUptoRow : OpenClaim := { program := "ytcalheieakppmaa", sum := "4aca6f20fc504587dc6915b7369deba30e05c3b849fa455f97bf035c1dbe9d96", func := "loop.example/differenceengine/laws.FnExactAddEngines", spec := "fnExactAddEngines", apart := false, narrowed := true }
def FnExactAddEnginesUptoSaid : Prop := fnExactAddEnginesUptoRow.holds Try.pinned (OpenSpec.upto fnExactAddEnginesSpec)

/-- 'laws.FnExactReadEngine', WHERE WHAT IT READS IS OF BULK AT MOST 1048576: true; the input reads as it did. -/
def fnExactReadEngineUptoRow : OpenClaim := { program := "ytcalheieakppmaa", sum := "4aca6f20fc504587dc6915b7369deba30e05c3b849fa455f97bf035c1dbe9d96", func := "loop.example/differenceengine/laws.FnExactReadEngine", spec := "fnExactReadEngine", apart := false, narrowed := true }
def FnExactReadEngineUptoSaid : Prop := fnExactReadEngineUptoRow.holds Try.pinned (OpenSpec.upto fnExactReadEngineSpec)

/-- 'laws.FnExactWidenEngine', WHERE WHAT IT READS IS OF BULK AT MOST 1048576: true; the input reads as it did. -/
def fnExactWidenEngineUptoRow : OpenClaim := { program := "ytcalheieakppmaa", sum := "4aca6f20fc504587dc6915b7369deba30e05c3b849fa455f97bf035c1dbe9d96", func := "loop.example/differenceengine/laws.FnExactWidenEngine", spec := "fnExactWidenEngine", apart := false, narrowed := true }
def FnExactWidenEngineUptoSaid : Prop := fnExactWidenEngineUptoRow.holds Try.pinned (OpenSpec.upto fnExactWidenEngineSpec)

/-- 'laws.FnExactSetUp', WHERE WHAT IT READS IS OF BULK AT MOST 1048576: true; the input reads as it did. -/
def fnExactSetUpUptoRow : OpenClaim := { program := "ytcalheieakppmaa", sum := "4aca6f20fc504587dc6915b7369deba30e05c3b849fa455f97bf035c1dbe9d96", func := "loop.example/differenceengine/laws.FnExactSetUp", spec := "fnExactSetUp", apart := false, narrowed := true }
def FnExactSetUpUptoSaid : Prop := fnExactSetUpUptoRow.holds Try.pinned (OpenSpec.upto fnExactSetUpSpec)

/-- 'laws.FnExactRunEngine', WHERE WHAT IT READS IS OF BULK AT MOST 1048576: true; the input reads as it did. -/
def fnExactRunEngineUptoRow : OpenClaim := { program := "ytcalheieakppmaa", sum := "4aca6f20fc504587dc6915b7369deba30e05c3b849fa455f97bf035c1dbe9d96", func := "loop.example/differenceengine/laws.FnExactRunEngine", spec := "fnExactRunEngine", unfollowed := true, recurses := true, apart := false, narrowed := true }
def FnExactRunEngineUptoSaid : Prop := fnExactRunEngineUptoRow.holds Try.pinned (OpenSpec.upto fnExactRunEngineSpec)

/-- 'laws.FnExactUnskewEngine', WHERE WHAT IT READS IS OF BULK AT MOST 1048576: true; the input reads as it did. -/
def fnExactUnskewEngineUptoRow : OpenClaim := { program := "ytcalheieakppmaa", sum := "4aca6f20fc504587dc6915b7369deba30e05c3b849fa455f97bf035c1dbe9d96", func := "loop.example/differenceengine/laws.FnExactUnskewEngine", spec := "fnExactUnskewEngine", apart := false, narrowed := true }
def FnExactUnskewEngineUptoSaid : Prop := fnExactUnskewEngineUptoRow.holds Try.pinned (OpenSpec.upto fnExactUnskewEngineSpec)

/-- 'laws.FnExactRunHalves', WHERE WHAT IT READS IS OF BULK AT MOST 1048576: true; the input reads as it did. -/
def fnExactRunHalvesUptoRow : OpenClaim := { program := "ytcalheieakppmaa", sum := "4aca6f20fc504587dc6915b7369deba30e05c3b849fa455f97bf035c1dbe9d96", func := "loop.example/differenceengine/laws.FnExactRunHalves", spec := "fnExactRunHalves", unfollowed := true, recurses := true, apart := false, narrowed := true }
def FnExactRunHalvesUptoSaid : Prop := fnExactRunHalvesUptoRow.holds Try.pinned (OpenSpec.upto fnExactRunHalvesSpec)

/-- 'laws.FnDiffTable', WHERE WHAT IT READS IS OF BULK AT MOST 1048576: true; the input reads as it did. -/
def fnDiffTableUptoRow : OpenClaim := { program := "ytcalheieakppmaa", sum := "4aca6f20fc504587dc6915b7369deba30e05c3b849fa455f97bf035c1dbe9d96", func := "loop.example/differenceengine/laws.FnDiffTable", spec := "fnDiffTable", apart := false, narrowed := true }
def FnDiffTableUptoSaid : Prop := fnDiffTableUptoRow.holds Try.pinned (OpenSpec.upto fnDiffTableSpec)

/-- 'laws.FnHalfColumns', WHERE WHAT IT READS IS OF BULK AT MOST 1048576: true; the input reads as it did. -/
def fnHalfColumnsUptoRow : OpenClaim := { program := "ytcalheieakppmaa", sum := "4aca6f20fc504587dc6915b7369deba30e05c3b849fa455f97bf035c1dbe9d96", func := "loop.example/differenceengine/laws.FnHalfColumns", spec := "fnHalfColumns", apart := false, narrowed := true }
def FnHalfColumnsUptoSaid : Prop := fnHalfColumnsUptoRow.holds Try.pinned (OpenSpec.upto fnHalfColumnsSpec)

/-- 'laws.FnTurnBack', WHERE WHAT IT READS IS OF BULK AT MOST 1048576: true; the input reads as it did. -/
def fnTurnBackUptoRow : OpenClaim := { program := "ytcalheieakppmaa", sum := "4aca6f20fc504587dc6915b7369deba30e05c3b849fa455f97bf035c1dbe9d96", func := "loop.example/differenceengine/laws.FnTurnBack", spec := "fnTurnBack", apart := false, narrowed := true }
def FnTurnBackUptoSaid : Prop := fnTurnBackUptoRow.holds Try.pinned (OpenSpec.upto fnTurnBackSpec)

/-- 'laws.FnTurnColumns', WHERE WHAT IT READS IS OF BULK AT MOST 1048576: true; the input reads as it did. -/
def fnTurnColumnsUptoRow : OpenClaim := { program := "ytcalheieakppmaa", sum := "4aca6f20fc504587dc6915b7369deba30e05c3b849fa455f97bf035c1dbe9d96", func := "loop.example/differenceengine/laws.FnTurnColumns", spec := "fnTurnColumns", apart := false, narrowed := true }
def FnTurnColumnsUptoSaid : Prop := fnTurnColumnsUptoRow.holds Try.pinned (OpenSpec.upto fnTurnColumnsSpec)

/-- 'laws.FnTurnMany', WHERE WHAT IT READS IS OF BULK AT MOST 1048576: true; the input reads as it did. -/
def fnTurnManyUptoRow : OpenClaim := { program := "ytcalheieakppmaa", sum := "4aca6f20fc504587dc6915b7369deba30e05c3b849fa455f97bf035c1dbe9d96", func := "loop.example/differenceengine/laws.FnTurnMany", spec := "fnTurnMany", apart := false, narrowed := true }
def FnTurnManyUptoSaid : Prop := fnTurnManyUptoRow.holds Try.pinned (OpenSpec.upto fnTurnManySpec)

/-- 'laws.FnAddEngines', WHERE WHAT IT READS IS OF BULK AT MOST 1048576: true; the input reads as it did. -/
def fnAddEnginesUptoRow : OpenClaim := { program := "ytcalheieakppmaa", sum := "4aca6f20fc504587dc6915b7369deba30e05c3b849fa455f97bf035c1dbe9d96", func := "loop.example/differenceengine/laws.FnAddEngines", spec := "fnAddEngines", apart := false, narrowed := true }
def FnAddEnginesUptoSaid : Prop := fnAddEnginesUptoRow.holds Try.pinned (OpenSpec.upto fnAddEnginesSpec)

/-- 'laws.FnUnskewForth', WHERE WHAT IT READS IS OF BULK AT MOST 1048576: true; the input reads as it did. -/
def fnUnskewForthUptoRow : OpenClaim := { program := "ytcalheieakppmaa", sum := "4aca6f20fc504587dc6915b7369deba30e05c3b849fa455f97bf035c1dbe9d96", func := "loop.example/differenceengine/laws.FnUnskewForth", spec := "fnUnskewForth", apart := false, narrowed := true }
def FnUnskewForthUptoSaid : Prop := fnUnskewForthUptoRow.holds Try.pinned (OpenSpec.upto fnUnskewForthSpec)

/-- 'laws.FnHalves', WHERE WHAT IT READS IS OF BULK AT MOST 1048576: true; the input reads as it did. -/
def fnHalvesUptoRow : OpenClaim := { program := "ytcalheieakppmaa", sum := "4aca6f20fc504587dc6915b7369deba30e05c3b849fa455f97bf035c1dbe9d96", func := "loop.example/differenceengine/laws.FnHalves", spec := "fnHalves", apart := false, narrowed := true }
def FnHalvesUptoSaid : Prop := fnHalvesUptoRow.holds Try.pinned (OpenSpec.upto fnHalvesSpec)

/-- 'laws.FnSkewBack', WHERE WHAT IT READS IS OF BULK AT MOST 1048576: true; the input reads as it did. -/
def fnSkewBackUptoRow : OpenClaim := { program := "ytcalheieakppmaa", sum := "4aca6f20fc504587dc6915b7369deba30e05c3b849fa455f97bf035c1dbe9d96", func := "loop.example/differenceengine/laws.FnSkewBack", spec := "fnSkewBack", apart := false, narrowed := true }
def FnSkewBackUptoSaid : Prop := fnSkewBackUptoRow.holds Try.pinned (OpenSpec.upto fnSkewBackSpec)

end Rows
end Go.Proofs.Ytcalheieakppmaa
