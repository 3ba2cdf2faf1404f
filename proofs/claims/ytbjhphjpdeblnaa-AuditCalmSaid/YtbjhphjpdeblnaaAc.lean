/- Watches: moments that may be, as the document says it. No condition. -/
import Derived.Test.YtbjhphjpdeblnaaAb
namespace Go.Proofs.Ytbjhphjpdeblnaa
open Go Go.Sy
set_option maxRecDepth 100000
set_option linter.unusedSimpArgs false
set_option linter.unusedVariables false

theorem alike_same {x y : Se} (h : alikeB x y = true) : sameB x y = true := by
  rw [alikeB, Bool.and_eq_true] at h; exact h.1
theorem cnt_all {x : Se} {l : List Se} (h : ∀ y ∈ l, sameB x y = true → alikeB x y = true) : l.countP (alikeB x) = l.countP (sameB x) :=
  List.countP_congr fun y hy => ⟨alike_same, h y hy⟩
theorem cnt_le {x : Se} (l : List Se) : l.countP (alikeB x) ≤ l.countP (sameB x) := List.countP_mono_left fun y _ => alike_same
theorem cnt_lt {x y : Se} {l : List Se} (hy : y ∈ l) (h1 : sameB x y = true) (h2 : alikeB x y = false) : l.countP (alikeB x) < l.countP (sameB x) := by
  obtain ⟨a, b, rfl⟩ := List.append_of_mem hy
  have ha := cnt_le (x := x) a
  have hb := cnt_le (x := x) b
  rw [List.countP_append, List.countP_append, List.countP_cons, List.countP_cons, h1, h2]
  simp only [if_true, if_false, Bool.false_eq_true]
  omega
end Go.Proofs.Ytbjhphjpdeblnaa
