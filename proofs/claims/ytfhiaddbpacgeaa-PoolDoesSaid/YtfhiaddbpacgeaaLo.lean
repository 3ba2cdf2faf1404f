/- What is done to pools, as a value. No condition. -/
import Derived.Test.YtfhiaddbpacgeaaOc
namespace Go.Proofs.Ytfhiaddbpacgeaa
open Go Go.Sy
set_option maxRecDepth 100000
set_option linter.unusedSimpArgs false
set_option linter.unusedVariables false

/-- What is done: its kind, two pools, a pCPU, a set. -/
structure Od where
  k : Int
  a : Int
  b : Int
  c : Int
  s : Nat
instance : Inhabited Od := ⟨⟨0, 0, 0, 0, 0⟩⟩
def eO (o : Od) : List SV := [I o.k, I o.a, I o.b, I o.c, S o.s]
abbrev inO (o : Od) : Prop := i64 o.k ∧ i64 o.a ∧ i64 o.b ∧ i64 o.c ∧ o.s < 4294967296
end Go.Proofs.Ytfhiaddbpacgeaa
