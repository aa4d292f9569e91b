/- The contract of the reference's TurnHalves, for whatever comes in. -/
import Derived.Test.YtkmblobfamhoiaaGrG
import Derived.Test.YtkmblobfamhoiaaSpeS
namespace Go.Proofs.Ytkmblobfamhoiaa
open Go.RowKit
set_option maxRecDepth 4000

end Go.Proofs.Ytkmblobfamhoiaa
