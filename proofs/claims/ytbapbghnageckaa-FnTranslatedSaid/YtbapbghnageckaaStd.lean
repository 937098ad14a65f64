/- The functions of the rows: sizes, copies, comparisons, marks: printed by a program of the session. -/
import Derived.Test.YtbapbghnageckaaGQStd
import Derived.Test.YtbapbghnageckaaPIProg
namespace Go.Proofs.Ytbapbghnageckaa.PI
open Go Go.Q
set_option maxRecDepth 100000
set_option maxHeartbeats 4000000
set_option linter.unusedSimpArgs false
set_option linter.unusedVariables false

end Go.Proofs.Ytbapbghnageckaa.PI
