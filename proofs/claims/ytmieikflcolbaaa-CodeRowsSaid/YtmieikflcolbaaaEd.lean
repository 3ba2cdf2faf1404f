/- What counts of each kind: letter by letter. No condition. -/
import Derived.Test.YtmieikflcolbaaaEc
namespace Go.Proofs.Ytmieikflcolbaaa
open Go Go.Sy
set_option maxRecDepth 100000
set_option linter.unusedSimpArgs false
set_option linter.unusedVariables false
def cel (c : Nat) : Nat := if c = 100 then 9 else if c = 119 then 10 else if c = 99 then 11 else if c = 113 then 12 else if c = 118 then 2 else if c = 112 then 3 else if c = 111 then 4 else if c = 102 then 5 else if c = 97 then 7 else if c = 101 then 8 else if c = 116 then 28
  else if c = 68 then 16 else if c = 87 then 22 else if c = 67 then 23 else if c = 80 then 20 else if c = 86 then 17 else if c = 71 then 18 else if c = 83 then 26 else if c = 73 then 21 else 19
def wid (c : Nat) : Nat := if c = 119 ∨ c = 99 ∨ c = 87 ∨ c = 67 then 2 else if c = 83 then 4 else if c = 97 ∨ c = 101 ∨ c = 116 then 8 else if c = 109 ∨ c = 77 ∨ c = 110 ∨ c = 78 then 0 else 1
def eC (a : Evt) (s : Out) (c : Nat) : Out :=
  if c = 109 then e1 4 (a.1 14) (e1 4 (a.1 13) s) else if c = 77 then e1 4 (a.1 25) (e1 4 (a.1 24) s) else if c = 110 then eL a.2.1 s else if c = 78 then eL a.2.2 s else e1 (wid c) (a.1 (cel c)) s
def eLs (a : Evt) (s : Out) (l : List Nat) : Out := l.foldl (eC a) s
theorem eNs_len : ∀ (l : List Int) (s : Out), (eNs l s).1.length ≤ s.1.length + l.length
  | [], s => by simp [eNs]
  | x :: l, s => by
    rw [eNs]
    split
    · simp
    · have := eNs_len l (e1 1 x s)
      rw [e1_len] at this
      simp only [List.length_cons]
      omega
theorem eL_len (l : List Int) (s : Out) : (eL l s).1.length ≤ s.1.length + 1 + l.length := by
  have := eNs_len l ((e1 1 l.length s).1, (e1 1 l.length s).2 || decide (32 < l.length))
  dsimp only at this
  rw [e1_len] at this
  exact this
end Go.Proofs.Ytmieikflcolbaaa
