/- The functions of the rows: sizes, copies, comparisons, marks: printed by a program of the session. -/
import Derived.Test.YtbapbghnageckaaGreatGQStd
import Derived.Test.YtbapbghnageckaaGreatPIProg
namespace Go.Proofs.YtbapbghnageckaaGreat.PI
open Go Go.Q
set_option maxRecDepth 100000
set_option maxHeartbeats 4000000
set_option linter.unusedSimpArgs false
set_option linter.unusedVariables false
attribute [local go_sem] Nat.reduceAdd Nat.reduceSub Nat.reduceMul Nat.reduceMod Nat.reduceLT Nat.reduceLeDiff Nat.reduceEqDiff Nat.reduceBEq Nat.reduceDiv Int.reduceLT Int.reduceLE Int.reduceToNat Int.reduceNeg Int.reduceEq reduceCtorEq
attribute [local go_sem ↓] reduceIte reduceDIte

end Go.Proofs.YtbapbghnageckaaGreat.PI
