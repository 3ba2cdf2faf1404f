/- What the rows of a layer share: the program is laid out; what an argument of theirs is. No condition. -/
import Derived.Test.YtmieikflcolbaaaSyZ
import Derived.Test.YtmieikflcolbaaaGz
import Derived.Test.YtmieikflcolbaaaRows
namespace Go.Proofs.Ytmieikflcolbaaa
open Go Go.Sy
set_option maxRecDepth 100000
set_option linter.unusedSimpArgs false
set_option linter.unusedVariables false
theorem own : ownKnob Try.prog.godebug = none := by kernel_rfl
theorem laidOut : laidOutB Try.prog = true := by kernel_rfl
end Go.Proofs.Ytmieikflcolbaaa
