/-
  No cell of these rows narrows 'for every input' (looked for: loops, veiled, ifaces, maps, wideKeys, modest, calm, conditions, laid).
  DERIVED. THE GIVEN ROWS OF THIS SEAT. 12 by the template 'for every input the law returns true; each argument reads behind the call as it read before'; 0 by the template 'total and deterministic' (their statements: YtkmblobfamhoiaaTotals.lean).
  GIVEN WITH THE SEED: the statements are not yours to turn. If you find one false, say at which input.
  Laid BY PROGRAM, IN A SANDBOX (cutbox-rows.mjs): the forced cells as the released guide's own fill.sh prints them over the translation 3a359cdce88201e7… (all of the seat's roots in one cut). By AI agents, Wed Nov 11 2026. No macro, syntax, notation, axiom, sorry.
-/
import Derived.Test.YtkmblobfamhoiaaChecked
import GoSem.Claim
import GoSem.ClaimJoined
import GoSem.ClaimMapViews
import Derived.JoinedTies
import Derived.KernelRfl
namespace Go.Proofs.Ytkmblobfamhoiaa
/- THE CELL 'sum', in the pinned program and in every row, IS THE sha256 OF THE DUMP (.gsa) THAT YtkmblobfamhoiaaProg.lean LOADS. Nothing in Lean hashes anything: it is a label: what it is worth is what the hold of that sum in a sandbox is worth. -/
noncomputable def Try.pinned : Pinned := { name := "ytkmblobfamhoiaa", sum := "3a359cdce88201e7cc21dea718430ab19513591fda2e6e3ece0882ead8da3f45", checked := Try.checked }
namespace Rows
def none {H : Type} : Left H := { results := [], args := [] }

/-- 'laws.FnDiffTable': WHATEVER THE INPUT: true; the input reads as it did. -/
def fnDiffTableSpec : ChangeSpec := { name := "fnDiffTable", fn := fun _ => fun
  | [d] => { results := [.lit (.bool true)], args := [d] }
  | _ => none }
def fnDiffTableRow : OpenClaim := { program := "ytkmblobfamhoiaa", sum := "3a359cdce88201e7cc21dea718430ab19513591fda2e6e3ece0882ead8da3f45", func := "loop.example/differenceengine/laws.FnDiffTable", spec := "fnDiffTable", apart := false }
def FnDiffTableSaid : Prop := fnDiffTableRow.holds Try.pinned (OpenSpec.ofChange fnDiffTableSpec)

/-- ITS FALSE NEIGHBOUR: 'it returns false'. Refute it at one input. -/
def fnDiffTableWrong : ChangeSpec := { name := "fnDiffTable", fn := fun _ => fun
  | [d] => { results := [.lit (.bool false)], args := [d] }
  | _ => none }
def FnDiffTableWrongFalsely : Prop := fnDiffTableRow.holds Try.pinned (OpenSpec.ofChange fnDiffTableWrong)

/-- 'laws.FnExactRunEngine': WHATEVER THE INPUT: true; the input reads as it did. -/
def fnExactRunEngineSpec : ChangeSpec := { name := "fnExactRunEngine", fn := fun _ => fun
  | [d1, d2] => { results := [.lit (.bool true)], args := [d1, d2] }
  | _ => none }
def fnExactRunEngineRow : OpenClaim := { program := "ytkmblobfamhoiaa", sum := "3a359cdce88201e7cc21dea718430ab19513591fda2e6e3ece0882ead8da3f45", func := "loop.example/differenceengine/laws.FnExactRunEngine", spec := "fnExactRunEngine", unfollowed := true, recurses := true, apart := false }
def FnExactRunEngineSaid : Prop := fnExactRunEngineRow.holds Try.pinned (OpenSpec.ofChange fnExactRunEngineSpec)

/-- ITS FALSE NEIGHBOUR: 'it returns false'. Refute it at one input. -/
def fnExactRunEngineWrong : ChangeSpec := { name := "fnExactRunEngine", fn := fun _ => fun
  | [d1, d2] => { results := [.lit (.bool false)], args := [d1, d2] }
  | _ => none }
def FnExactRunEngineWrongFalsely : Prop := fnExactRunEngineRow.holds Try.pinned (OpenSpec.ofChange fnExactRunEngineWrong)

/-- 'laws.FnExactRunHalves': WHATEVER THE INPUT: true; the input reads as it did. -/
def fnExactRunHalvesSpec : ChangeSpec := { name := "fnExactRunHalves", fn := fun _ => fun
  | [d1, d2] => { results := [.lit (.bool true)], args := [d1, d2] }
  | _ => none }
def fnExactRunHalvesRow : OpenClaim := { program := "ytkmblobfamhoiaa", sum := "3a359cdce88201e7cc21dea718430ab19513591fda2e6e3ece0882ead8da3f45", func := "loop.example/differenceengine/laws.FnExactRunHalves", spec := "fnExactRunHalves", unfollowed := true, recurses := true, apart := false }
def FnExactRunHalvesSaid : Prop := fnExactRunHalvesRow.holds Try.pinned (OpenSpec.ofChange fnExactRunHalvesSpec)

/-- ITS FALSE NEIGHBOUR: 'it returns false'. Refute it at one input. -/
def fnExactRunHalvesWrong : ChangeSpec := { name := "fnExactRunHalves", fn := fun _ => fun
  | [d1, d2] => { results := [.lit (.bool false)], args := [d1, d2] }
  | _ => none }
def FnExactRunHalvesWrongFalsely : Prop := fnExactRunHalvesRow.holds Try.pinned (OpenSpec.ofChange fnExactRunHalvesWrong)

/-- 'laws.FnAddEngines': WHATEVER THE INPUT: true; the input reads as it did. -/
def fnAddEnginesSpec : ChangeSpec := { name := "fnAddEngines", fn := fun _ => fun
  | [d1, d2] => { results := [.lit (.bool true)], args := [d1, d2] }
  | _ => none }
def fnAddEnginesRow : OpenClaim := { program := "ytkmblobfamhoiaa", sum := "3a359cdce88201e7cc21dea718430ab19513591fda2e6e3ece0882ead8da3f45", func := "loop.example/differenceengine/laws.FnAddEngines", spec := "fnAddEngines", apart := false }
def FnAddEnginesSaid : Prop := fnAddEnginesRow.holds Try.pinned (OpenSpec.ofChange fnAddEnginesSpec)

/-- ITS FALSE NEIGHBOUR: 'it returns false'. Refute it at one input. -/
def fnAddEnginesWrong : ChangeSpec := { name := "fnAddEngines", fn := fun _ => fun
  | [d1, d2] => { results := [.lit (.bool false)], args := [d1, d2] }
  | _ => none }
def FnAddEnginesWrongFalsely : Prop := fnAddEnginesRow.holds Try.pinned (OpenSpec.ofChange fnAddEnginesWrong)

/-- 'laws.FnTurnSum': WHATEVER THE INPUT: true; the input reads as it did. -/
def fnTurnSumSpec : ChangeSpec := { name := "fnTurnSum", fn := fun _ => fun
  | [d] => { results := [.lit (.bool true)], args := [d] }
  | _ => none }
def fnTurnSumRow : OpenClaim := { program := "ytkmblobfamhoiaa", sum := "3a359cdce88201e7cc21dea718430ab19513591fda2e6e3ece0882ead8da3f45", func := "loop.example/differenceengine/laws.FnTurnSum", spec := "fnTurnSum", apart := false }
def FnTurnSumSaid : Prop := fnTurnSumRow.holds Try.pinned (OpenSpec.ofChange fnTurnSumSpec)

/-- ITS FALSE NEIGHBOUR: 'it returns false'. Refute it at one input. -/
def fnTurnSumWrong : ChangeSpec := { name := "fnTurnSum", fn := fun _ => fun
  | [d] => { results := [.lit (.bool false)], args := [d] }
  | _ => none }
def FnTurnSumWrongFalsely : Prop := fnTurnSumRow.holds Try.pinned (OpenSpec.ofChange fnTurnSumWrong)

/-- 'laws.FnWidenEngine': WHATEVER THE INPUT: true; the input reads as it did. -/
def fnWidenEngineSpec : ChangeSpec := { name := "fnWidenEngine", fn := fun _ => fun
  | [d] => { results := [.lit (.bool true)], args := [d] }
  | _ => none }
def fnWidenEngineRow : OpenClaim := { program := "ytkmblobfamhoiaa", sum := "3a359cdce88201e7cc21dea718430ab19513591fda2e6e3ece0882ead8da3f45", func := "loop.example/differenceengine/laws.FnWidenEngine", spec := "fnWidenEngine", apart := false }
def FnWidenEngineSaid : Prop := fnWidenEngineRow.holds Try.pinned (OpenSpec.ofChange fnWidenEngineSpec)

/-- ITS FALSE NEIGHBOUR: 'it returns false'. Refute it at one input. -/
def fnWidenEngineWrong : ChangeSpec := { name := "fnWidenEngine", fn := fun _ => fun
  | [d] => { results := [.lit (.bool false)], args := [d] }
  | _ => none }
def FnWidenEngineWrongFalsely : Prop := fnWidenEngineRow.holds Try.pinned (OpenSpec.ofChange fnWidenEngineWrong)

/-- 'laws.FnSetUpRead': WHATEVER THE INPUT: true; the input reads as it did. -/
def fnSetUpReadSpec : ChangeSpec := { name := "fnSetUpRead", fn := fun _ => fun
  | [d] => { results := [.lit (.bool true)], args := [d] }
  | _ => none }
def fnSetUpReadRow : OpenClaim := { program := "ytkmblobfamhoiaa", sum := "3a359cdce88201e7cc21dea718430ab19513591fda2e6e3ece0882ead8da3f45", func := "loop.example/differenceengine/laws.FnSetUpRead", spec := "fnSetUpRead", apart := false }
def FnSetUpReadSaid : Prop := fnSetUpReadRow.holds Try.pinned (OpenSpec.ofChange fnSetUpReadSpec)

/-- ITS FALSE NEIGHBOUR: 'it returns false'. Refute it at one input. -/
def fnSetUpReadWrong : ChangeSpec := { name := "fnSetUpRead", fn := fun _ => fun
  | [d] => { results := [.lit (.bool false)], args := [d] }
  | _ => none }
def FnSetUpReadWrongFalsely : Prop := fnSetUpReadRow.holds Try.pinned (OpenSpec.ofChange fnSetUpReadWrong)

/-- 'laws.FnRunHalves': WHATEVER THE INPUT: true; the input reads as it did. -/
def fnRunHalvesSpec : ChangeSpec := { name := "fnRunHalves", fn := fun _ => fun
  | [d] => { results := [.lit (.bool true)], args := [d] }
  | _ => none }
def fnRunHalvesRow : OpenClaim := { program := "ytkmblobfamhoiaa", sum := "3a359cdce88201e7cc21dea718430ab19513591fda2e6e3ece0882ead8da3f45", func := "loop.example/differenceengine/laws.FnRunHalves", spec := "fnRunHalves", unfollowed := true, recurses := true, apart := false }
def FnRunHalvesSaid : Prop := fnRunHalvesRow.holds Try.pinned (OpenSpec.ofChange fnRunHalvesSpec)

/-- ITS FALSE NEIGHBOUR: 'it returns false'. Refute it at one input. -/
def fnRunHalvesWrong : ChangeSpec := { name := "fnRunHalves", fn := fun _ => fun
  | [d] => { results := [.lit (.bool false)], args := [d] }
  | _ => none }
def FnRunHalvesWrongFalsely : Prop := fnRunHalvesRow.holds Try.pinned (OpenSpec.ofChange fnRunHalvesWrong)

/-- 'laws.FnCapacity': WHATEVER THE INPUT: true; the input reads as it did. -/
def fnCapacitySpec : ChangeSpec := { name := "fnCapacity", fn := fun _ => fun
  | [d] => { results := [.lit (.bool true)], args := [d] }
  | _ => none }
def fnCapacityRow : OpenClaim := { program := "ytkmblobfamhoiaa", sum := "3a359cdce88201e7cc21dea718430ab19513591fda2e6e3ece0882ead8da3f45", func := "loop.example/differenceengine/laws.FnCapacity", spec := "fnCapacity", unfollowed := true, recurses := true, apart := false }
def FnCapacitySaid : Prop := fnCapacityRow.holds Try.pinned (OpenSpec.ofChange fnCapacitySpec)

/-- ITS FALSE NEIGHBOUR: 'it returns false'. Refute it at one input. -/
def fnCapacityWrong : ChangeSpec := { name := "fnCapacity", fn := fun _ => fun
  | [d] => { results := [.lit (.bool false)], args := [d] }
  | _ => none }
def FnCapacityWrongFalsely : Prop := fnCapacityRow.holds Try.pinned (OpenSpec.ofChange fnCapacityWrong)

/-- 'laws.FnTurnShows': WHATEVER THE INPUT: true; the input reads as it did. -/
def fnTurnShowsSpec : ChangeSpec := { name := "fnTurnShows", fn := fun _ => fun
  | [d] => { results := [.lit (.bool true)], args := [d] }
  | _ => none }
def fnTurnShowsRow : OpenClaim := { program := "ytkmblobfamhoiaa", sum := "3a359cdce88201e7cc21dea718430ab19513591fda2e6e3ece0882ead8da3f45", func := "loop.example/differenceengine/laws.FnTurnShows", spec := "fnTurnShows", apart := false }
def FnTurnShowsSaid : Prop := fnTurnShowsRow.holds Try.pinned (OpenSpec.ofChange fnTurnShowsSpec)

/-- ITS FALSE NEIGHBOUR: 'it returns false'. Refute it at one input. -/
def fnTurnShowsWrong : ChangeSpec := { name := "fnTurnShows", fn := fun _ => fun
  | [d] => { results := [.lit (.bool false)], args := [d] }
  | _ => none }
def FnTurnShowsWrongFalsely : Prop := fnTurnShowsRow.holds Try.pinned (OpenSpec.ofChange fnTurnShowsWrong)

/-- 'laws.FnRunTurns': WHATEVER THE INPUT: true; the input reads as it did. -/
def fnRunTurnsSpec : ChangeSpec := { name := "fnRunTurns", fn := fun _ => fun
  | [d] => { results := [.lit (.bool true)], args := [d] }
  | _ => none }
def fnRunTurnsRow : OpenClaim := { program := "ytkmblobfamhoiaa", sum := "3a359cdce88201e7cc21dea718430ab19513591fda2e6e3ece0882ead8da3f45", func := "loop.example/differenceengine/laws.FnRunTurns", spec := "fnRunTurns", unfollowed := true, recurses := true, apart := false }
def FnRunTurnsSaid : Prop := fnRunTurnsRow.holds Try.pinned (OpenSpec.ofChange fnRunTurnsSpec)

/-- ITS FALSE NEIGHBOUR: 'it returns false'. Refute it at one input. -/
def fnRunTurnsWrong : ChangeSpec := { name := "fnRunTurns", fn := fun _ => fun
  | [d] => { results := [.lit (.bool false)], args := [d] }
  | _ => none }
def FnRunTurnsWrongFalsely : Prop := fnRunTurnsRow.holds Try.pinned (OpenSpec.ofChange fnRunTurnsWrong)

/-- 'laws.FnReadSetUp': WHATEVER THE INPUT: true; the input reads as it did. -/
def fnReadSetUpSpec : ChangeSpec := { name := "fnReadSetUp", fn := fun _ => fun
  | [d] => { results := [.lit (.bool true)], args := [d] }
  | _ => none }
def fnReadSetUpRow : OpenClaim := { program := "ytkmblobfamhoiaa", sum := "3a359cdce88201e7cc21dea718430ab19513591fda2e6e3ece0882ead8da3f45", func := "loop.example/differenceengine/laws.FnReadSetUp", spec := "fnReadSetUp", apart := false }
def FnReadSetUpSaid : Prop := fnReadSetUpRow.holds Try.pinned (OpenSpec.ofChange fnReadSetUpSpec)

/-- ITS FALSE NEIGHBOUR: 'it returns false'. Refute it at one input. -/
def fnReadSetUpWrong : ChangeSpec := { name := "fnReadSetUp", fn := fun _ => fun
  | [d] => { results := [.lit (.bool false)], args := [d] }
  | _ => none }
def FnReadSetUpWrongFalsely : Prop := fnReadSetUpRow.holds Try.pinned (OpenSpec.ofChange fnReadSetUpWrong)

/- THE SECOND FORM. 'bulk': how many values and letters a reading holds, each counted each time it is reached (what is shared counts as often as it is met; a slice's spare places count too). A statement '..UptoSaid' is the law's where the arguments, and the package variables that the reading takes, are together of bulk at most 1048576: NARROWER than '..Said'. Prove '..Said' where nothing that the law and all that it calls make is longer than what came in: it says more and counts as full. Else prove '..UptoSaid'. A law counts once. -/
mutual
def uptoBulk {H : Type} : DataW H → Nat
  | .lit (.string bytes) => bytes.length + 1
  | .lit _ => 1
  | .nil => 1
  | .ptr d => uptoBulk d + 1
  | .slice elems spare => uptoBulkAll elems + uptoBulkAll spare + 1
  | .agg parts => uptoBulkAll parts + 1
  | .iface _ d => uptoBulk d + 1
  | .map entries => uptoBulkEntries entries + 1
  | .held _ => 1
def uptoBulkAll {H : Type} : List (DataW H) → Nat
  | [] => 0
  | d :: r => uptoBulk d + uptoBulkAll r
def uptoBulkEntries {H : Type} : List (Lit × DataW H) → Nat
  | [] => 0
  | x :: r => uptoBulkEntry x + uptoBulkEntries r
def uptoBulkEntry {H : Type} : Lit × DataW H → Nat
  | (.string bytes, d) => bytes.length + uptoBulk d + 1
  | (_, d) => uptoBulk d + 1
 end
def uptoSmall : (H : Type) → List (DataW H) → Bool := fun _ ds => decide (uptoBulkAll ds ≤ 1048576)
def OpenSpec.upto (s : _root_.Go.ChangeSpec) : _root_.Go.OpenSpec := { _root_.Go.OpenSpec.ofChange s with cond := some uptoSmall }

/-- 'laws.FnDiffTable', WHERE WHAT IT READS IS OF BULK AT MOST 1048576: true; the input reads as it did. -/
def fnDiffTableUptoRow : OpenClaim := { program := "ytkmblobfamhoiaa", sum := "3a359cdce88201e7cc21dea718430ab19513591fda2e6e3ece0882ead8da3f45", func := "loop.example/differenceengine/laws.FnDiffTable", spec := "fnDiffTable", apart := false, narrowed := true }
def FnDiffTableUptoSaid : Prop := fnDiffTableUptoRow.holds Try.pinned (OpenSpec.upto fnDiffTableSpec)

/-- 'laws.FnExactRunEngine', WHERE WHAT IT READS IS OF BULK AT MOST 1048576: true; the input reads as it did. -/
def fnExactRunEngineUptoRow : OpenClaim := { program := "ytkmblobfamhoiaa", sum := "3a359cdce88201e7cc21dea718430ab19513591fda2e6e3ece0882ead8da3f45", func := "loop.example/differenceengine/laws.FnExactRunEngine", spec := "fnExactRunEngine", unfollowed := true, recurses := true, apart := false, narrowed := true }
def FnExactRunEngineUptoSaid : Prop := fnExactRunEngineUptoRow.holds Try.pinned (OpenSpec.upto fnExactRunEngineSpec)

/-- 'laws.FnExactRunHalves', WHERE WHAT IT READS IS OF BULK AT MOST 1048576: true; the input reads as it did. -/
def fnExactRunHalvesUptoRow : OpenClaim := { program := "ytkmblobfamhoiaa", sum := "3a359cdce88201e7cc21dea718430ab19513591fda2e6e3ece0882ead8da3f45", func := "loop.example/differenceengine/laws.FnExactRunHalves", spec := "fnExactRunHalves", unfollowed := true, recurses := true, apart := false, narrowed := true }
def FnExactRunHalvesUptoSaid : Prop := fnExactRunHalvesUptoRow.holds Try.pinned (OpenSpec.upto fnExactRunHalvesSpec)

/-- 'laws.FnAddEngines', WHERE WHAT IT READS IS OF BULK AT MOST 1048576: true; the input reads as it did. -/
def fnAddEnginesUptoRow : OpenClaim := { program := "ytkmblobfamhoiaa", sum := "3a359cdce88201e7cc21dea718430ab19513591fda2e6e3ece0882ead8da3f45", func := "loop.example/differenceengine/laws.FnAddEngines", spec := "fnAddEngines", apart := false, narrowed := true }
def FnAddEnginesUptoSaid : Prop := fnAddEnginesUptoRow.holds Try.pinned (OpenSpec.upto fnAddEnginesSpec)

/-- 'laws.FnTurnSum', WHERE WHAT IT READS IS OF BULK AT MOST 1048576: true; the input reads as it did. -/
def fnTurnSumUptoRow : OpenClaim := { program := "ytkmblobfamhoiaa", sum := "3a359cdce88201e7cc21dea718430ab19513591fda2e6e3ece0882ead8da3f45", func := "loop.example/differenceengine/laws.FnTurnSum", spec := "fnTurnSum", apart := false, narrowed := true }
def FnTurnSumUptoSaid : Prop := fnTurnSumUptoRow.holds Try.pinned (OpenSpec.upto fnTurnSumSpec)

/-- 'laws.FnWidenEngine', WHERE WHAT IT READS IS OF BULK AT MOST 1048576: true; the input reads as it did. -/
def fnWidenEngineUptoRow : OpenClaim := { program := "ytkmblobfamhoiaa", sum := "3a359cdce88201e7cc21dea718430ab19513591fda2e6e3ece0882ead8da3f45", func := "loop.example/differenceengine/laws.FnWidenEngine", spec := "fnWidenEngine", apart := false, narrowed := true }
def FnWidenEngineUptoSaid : Prop := fnWidenEngineUptoRow.holds Try.pinned (OpenSpec.upto fnWidenEngineSpec)

/-- 'laws.FnSetUpRead', WHERE WHAT IT READS IS OF BULK AT MOST 1048576: true; the input reads as it did. -/
def fnSetUpReadUptoRow : OpenClaim := { program := "ytkmblobfamhoiaa", sum := "3a359cdce88201e7cc21dea718430ab19513591fda2e6e3ece0882ead8da3f45", func := "loop.example/differenceengine/laws.FnSetUpRead", spec := "fnSetUpRead", apart := false, narrowed := true }
def FnSetUpReadUptoSaid : Prop := fnSetUpReadUptoRow.holds Try.pinned (OpenSpec.upto fnSetUpReadSpec)

/-- 'laws.FnRunHalves', WHERE WHAT IT READS IS OF BULK AT MOST 1048576: true; the input reads as it did. -/
def fnRunHalvesUptoRow : OpenClaim := { program := "ytkmblobfamhoiaa", sum := "3a359cdce88201e7cc21dea718430ab19513591fda2e6e3ece0882ead8da3f45", func := "loop.example/differenceengine/laws.FnRunHalves", spec := "fnRunHalves", unfollowed := true, recurses := true, apart := false, narrowed := true }
def FnRunHalvesUptoSaid : Prop := fnRunHalvesUptoRow.holds Try.pinned (OpenSpec.upto fnRunHalvesSpec)

/-- 'laws.FnCapacity', WHERE WHAT IT READS IS OF BULK AT MOST 1048576: true; the input reads as it did. -/
def fnCapacityUptoRow : OpenClaim := { program := "ytkmblobfamhoiaa", sum := "3a359cdce88201e7cc21dea718430ab19513591fda2e6e3ece0882ead8da3f45", func := "loop.example/differenceengine/laws.FnCapacity", spec := "fnCapacity", unfollowed := true, recurses := true, apart := false, narrowed := true }
def FnCapacityUptoSaid : Prop := fnCapacityUptoRow.holds Try.pinned (OpenSpec.upto fnCapacitySpec)

/-- 'laws.FnTurnShows', WHERE WHAT IT READS IS OF BULK AT MOST 1048576: true; the input reads as it did. -/
def fnTurnShowsUptoRow : OpenClaim := { program := "ytkmblobfamhoiaa", sum := "3a359cdce88201e7cc21dea718430ab19513591fda2e6e3ece0882ead8da3f45", func := "loop.example/differenceengine/laws.FnTurnShows", spec := "fnTurnShows", apart := false, narrowed := true }
def FnTurnShowsUptoSaid : Prop := fnTurnShowsUptoRow.holds Try.pinned (OpenSpec.upto fnTurnShowsSpec)

/-- 'laws.FnRunTurns', WHERE WHAT IT READS IS OF BULK AT MOST 1048576: true; the input reads as it did. -/
def fnRunTurnsUptoRow : OpenClaim := { program := "ytkmblobfamhoiaa", sum := "3a359cdce88201e7cc21dea718430ab19513591fda2e6e3ece0882ead8da3f45", func := "loop.example/differenceengine/laws.FnRunTurns", spec := "fnRunTurns", unfollowed := true, recurses := true, apart := false, narrowed := true }
def FnRunTurnsUptoSaid : Prop := fnRunTurnsUptoRow.holds Try.pinned (OpenSpec.upto fnRunTurnsSpec)

/-- 'laws.FnReadSetUp', WHERE WHAT IT READS IS OF BULK AT MOST 1048576: true; the input reads as it did. -/
def fnReadSetUpUptoRow : OpenClaim := { program := "ytkmblobfamhoiaa", sum := "3a359cdce88201e7cc21dea718430ab19513591fda2e6e3ece0882ead8da3f45", func := "loop.example/differenceengine/laws.FnReadSetUp", spec := "fnReadSetUp", apart := false, narrowed := true }
def FnReadSetUpUptoSaid : Prop := fnReadSetUpUptoRow.holds Try.pinned (OpenSpec.upto fnReadSetUpSpec)

end Rows
end Go.Proofs.Ytkmblobfamhoiaa
