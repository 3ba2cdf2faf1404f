/- Walks of cpuset: those in a set. No condition. -/
import Derived.Test.YtbjhphjpdeblnaaCs
namespace Go.Proofs.Ytbjhphjpdeblnaa
open Go Go.Sy
set_option maxRecDepth 100000
set_option linter.unusedSimpArgs false
set_option linter.unusedVariables false

end Go.Proofs.Ytbjhphjpdeblnaa
