/- What the rows of a layer share: the program is laid out; what an argument of theirs is. No condition. -/
import Derived.Test.YtbjhphjpdeblnaaSyX
import Derived.Test.YtbjhphjpdeblnaaGz
import Derived.Test.YtbjhphjpdeblnaaRows
namespace Go.Proofs.Ytbjhphjpdeblnaa
open Go Go.Sy
set_option maxRecDepth 100000
set_option linter.unusedSimpArgs false
set_option linter.unusedVariables false
theorem own : ownKnob Try.prog.godebug = none := by kernel_rfl
theorem laidOut : laidOutB Try.prog = true := by kernel_rfl
end Go.Proofs.Ytbjhphjpdeblnaa
