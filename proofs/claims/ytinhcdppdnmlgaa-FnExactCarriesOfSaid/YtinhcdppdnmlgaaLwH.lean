/- Helpers of the exact laws: marks with any beginning, lists of ints beside engines. -/
import Derived.Test.YtinhcdppdnmlgaaLwE
import Derived.Test.YtinhcdppdnmlgaaLawA
import Derived.Test.YtinhcdppdnmlgaaGrE
namespace Go.Proofs.Ytinhcdppdnmlgaa
open Go.RowKit
set_option maxRecDepth 4000

end Go.Proofs.Ytinhcdppdnmlgaa
