/- A start that fits a row that lists Go's great table of first bytes: the door's own run, and the table laid. -/
import Derived.Test.YtinhcdppdnmlgaaDoorRowH
import Derived.Lib.LaidU8
namespace Go.Proofs.YtinhcdppdnmlgaaDoor
open Go

noncomputable def startP (os : Os) : World :=
  let w0 := World.doorLaid Tryd.prog 4000 os
  { w0 with heap := w0.heap.modify 4 fun
      | .cells _ t frozen => .cells ((Lib.firstTab.map (Value.int .u8)).toArray) t frozen
      | o => o }

end Go.Proofs.YtinhcdppdnmlgaaDoor
