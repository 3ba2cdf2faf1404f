/- What the rows of layer 1 share: the program is laid out; what an argument of theirs is. No condition. -/
import Derived.Test.YtllidfmecghccaaSyX
import Derived.Test.YtllidfmecghccaaSyt
import Derived.Test.YtllidfmecghccaaRows
namespace Go.Proofs.Ytllidfmecghccaa
open Go Go.Sy
set_option maxRecDepth 100000
set_option linter.unusedSimpArgs false
set_option linter.unusedVariables false
theorem own : ownKnob Try.prog.godebug = none := by kernel_rfl
theorem laidOut : laidOutB Try.prog = true := by kernel_rfl
theorem good_mx {d : Dt} (h : good (.agg [.int .u64, .int .i64]) d) : ∃ x w, d = .l [.n x, .n w] ∧ 0 ≤ x ∧ x ≤ 18446744073709551615 ∧ -9223372036854775808 ≤ w ∧ w ≤ 9223372036854775807 := by
  obtain ⟨xs, rfl, h⟩ := good_agg h
  obtain ⟨d1, xs, rfl, g1, h⟩ := goods_cons h
  obtain ⟨d2, xs, rfl, g2, h⟩ := goods_cons h
  obtain rfl := goods_nil h
  obtain ⟨x, rfl, x1⟩ := good_int g1
  obtain ⟨w, rfl, w1⟩ := good_int g2
  obtain ⟨x1, x2⟩ := rng_u64 x1
  obtain ⟨w1, w2⟩ := rng_i64 w1
  exact ⟨x, w, rfl, x1, x2, w1, w2⟩
end Go.Proofs.Ytllidfmecghccaa
