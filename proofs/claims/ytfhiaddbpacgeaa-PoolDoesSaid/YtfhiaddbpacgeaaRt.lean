/- Sums and differences of sets as numbers. No condition. -/
import Derived.Test.YtfhiaddbpacgeaaGz
namespace Go.Proofs.Ytfhiaddbpacgeaa
open Go Go.Sy
set_option maxRecDepth 100000
set_option linter.unusedSimpArgs false
set_option linter.unusedVariables false

theorem sub_is : ∀ a, a < 256 → ∀ s, s < 256 → dif s a = 0 → s ≤ a ∧ a - s = dif a s := by decide +kernel
theorem add_is : ∀ a, a < 256 → ∀ s, s < 256 → a &&& s = 0 → a + s = a ||| s := by decide +kernel
end Go.Proofs.Ytfhiaddbpacgeaa
