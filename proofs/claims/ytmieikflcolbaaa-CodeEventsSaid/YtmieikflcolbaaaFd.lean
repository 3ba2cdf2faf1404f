/- From bytes: letter by letter. No condition. -/
import Derived.Test.YtmieikflcolbaaaFc
import Derived.Test.YtmieikflcolbaaaEd
namespace Go.Proofs.Ytmieikflcolbaaa
open Go Go.Sy
set_option maxRecDepth 100000
set_option linter.unusedSimpArgs false
set_option linter.unusedVariables false

theorem listS_wk {bs : List Int} {s : In} (h : s.wk ≤ bs.length) : (listS bs s).wk ≤ bs.length := by
  have h1 : (rdS bs 1 s).wk ≤ bs.length := rdS_wk h
  rw [listS]
  split
  · exact h1
  · exact Nat.min_le_right _ _
theorem flagS_wk {bs : List Int} {s : In} (h : s.wk ≤ bs.length) : (flagS bs s).wk ≤ bs.length := rdS_wk (w := 1) h
/-- A letter from bytes. -/
def dC (bs : List Int) (p : In × Evt) (c : Nat) : In × Evt :=
  if c = 109 then (rdS bs 4 (rdS bs 4 p.1), upd (upd p.2 13 (numR bs p.1.wk p.1.er 4)) 14 (numR bs (rdS bs 4 p.1).wk (rdS bs 4 p.1).er 4))
  else if c = 77 then (rdS bs 4 (rdS bs 4 p.1), upd (upd p.2 24 (numR bs p.1.wk p.1.er 4)) 25 (numR bs (rdS bs 4 p.1).wk (rdS bs 4 p.1).er 4))
  else if c = 110 then (listS bs p.1, setL p.2 (listL bs p.1)) else if c = 78 then (listS bs p.1, setM p.2 (listL bs p.1))
  else if c = 102 then (flagS bs p.1, upd p.2 5 (numR bs p.1.wk p.1.er 1))
  else if c = 97 ∨ c = 101 ∨ c = 116 then (rdS bs 8 p.1, upd p.2 (cel c) (IntKind.i64.wrap (numR bs p.1.wk p.1.er 8)))
  else (rdS bs (wid c) p.1, upd p.2 (cel c) (numR bs p.1.wk p.1.er (wid c)))
def dLs (bs : List Int) (p : In × Evt) (l : List Nat) : In × Evt := l.foldl (dC bs) p
theorem dC_wk {bs : List Int} {p : In × Evt} (c : Nat) (h : p.1.wk ≤ bs.length) : (dC bs p c).1.wk ≤ bs.length := by
  unfold dC
  repeat' split
  all_goals first | exact rdS_wk h | exact rdS_wk (rdS_wk h) | exact listS_wk h | exact flagS_wk h
theorem dLs_wk {bs : List Int} : ∀ (l : List Nat) (p : In × Evt), p.1.wk ≤ bs.length → (dLs bs p l).1.wk ≤ bs.length
  | [], _, h => h
  | c :: l, p, h => dLs_wk l (dC bs p c) (dC_wk c h)
end Go.Proofs.Ytmieikflcolbaaa
