/- The walks of the marks and of their tests. -/
import Derived.Test.YtpffahmmklpifaaGreatWkStep
import Derived.Test.YtpffahmmklpifaaGreatWkOwn
namespace Go.Proofs.YtpffahmmklpifaaGreat.Abs
open Go.Proofs Go.RowKit
set_option linter.unusedVariables false
set_option linter.unusedSimpArgs false
set_option maxRecDepth 100000
set_option maxHeartbeats 2000000
attribute [local irreducible] OpA AL AW DL DLM DLR DLS QOp POp VCalls VCallsI
end Go.Proofs.YtpffahmmklpifaaGreat.Abs
