/- Walks of the reference's words on pools; short. No condition. -/
import Derived.Test.YtfhiaddbpacgeaaDoorOc
import Derived.Test.YtfhiaddbpacgeaaDoorSyZ
namespace Go.Proofs.YtfhiaddbpacgeaaDoor
open Go Go.Sy
set_option maxRecDepth 100000
set_option linter.unusedSimpArgs false
set_option linter.unusedVariables false

theorem totP_le (xs : List Nat) : totP xs ≤ 8 * xs.length := by
  refine snoc_ind (p := fun xs => totP xs ≤ 8 * xs.length) (by simp [totP]) (fun l s ih => ?_) xs
  have := bits_len s
  rw [totP_snoc, List.length_append, List.length_singleton]
  omega
theorem rofV_one {xs : List Nat} {c : Int} : (rofV xs c).2 = decide (cntH xs c = 1) := by
  have := rofS_cnt xs c xs.length (Nat.le_refl _)
  rw [List.take_length] at this
  rw [rofV, this]
  split <;> simp_all
end Go.Proofs.YtfhiaddbpacgeaaDoor
