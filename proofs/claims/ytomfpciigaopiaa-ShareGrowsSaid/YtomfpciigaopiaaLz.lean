/- Spreads and waits, and their errors, as one. No condition. -/
import Derived.Test.YtomfpciigaopiaaAr
namespace Go.Proofs.Ytomfpciigaopiaa
open Go Go.Sy
set_option maxRecDepth 100000
set_option linter.unusedSimpArgs false
set_option linter.unusedVariables false

theorem askE_no {l : List Pt} (h : rightP l = false) (b : Bool) : askE l b = 350 := by rw [askE, h]; rfl
theorem askE_arg {l : List Pt} (h : rightP l = true) : askE l false = 2 := by rw [askE, h]; rfl
theorem askE_yes {l : List Pt} (h : rightP l = true) : askE l true = 0 := by rw [askE, h]; rfl
/-- A spread, the error. -/
def spR (l : List Pt) (m gap : Int) : Nat × Int :=
  if askE l (inI m 1 8 && inI gap 1 10000000) ≠ 0 then (0, askE l (inI m 1 8 && inI gap 1 10000000))
  else if feasB l m = true then (spV (spC l m gap) l, 0) else (0, 351)
/-- A wait, the error. -/
def wtR (l : List Pt) (i gap : Int) : Int × Int :=
  if askE l (inI i 0 (l.length - 1) && inI gap 1 10000000) ≠ 0 then (0, askE l (inI i 0 (l.length - 1) && inI gap 1 10000000)) else (wtK l i gap l.length, 0)
theorem Spread_ok (l : List Pt) (m gap : Int) (hl : ∀ p ∈ l, inP p) (hn : l.length < 2 ^ 40) : Con Try.prog gl0 (fnv 19) [Ps l, I m, I gap] 0 [] (Ret (.tup [W (spR l m gap).1, I (spR l m gap).2])) := by
  rw [spR]
  by_cases h : askE l (inI m 1 8 && inI gap 1 10000000) = 0
  · rw [if_neg (by simpa using h)]
    obtain ⟨h1, h2⟩ := askE_ok h
    rw [Bool.and_eq_true, inI_iff, inI_iff] at h2
    cases hf : feasB l m
    · rw [if_neg (by decide)]
      exact Spread_inf l m gap hl h1 h2.1 h2.2 hf
    · rw [if_pos rfl]
      exact Spread_yes l m gap hl h1 h2.1 h2.2 hf
  · rw [if_pos h]
    exact Spread_err l m gap hl hn h
theorem Wait_ok (l : List Pt) (i gap : Int) (hl : ∀ p ∈ l, inP p) (hn : l.length < 2 ^ 40) : Con Try.prog gl0 (fnv 20) [Ps l, I i, I gap] 0 [] (Ret (.tup [I (wtR l i gap).1, I (wtR l i gap).2])) := by
  rw [wtR]
  by_cases h : askE l (inI i 0 (l.length - 1) && inI gap 1 10000000) = 0
  · rw [if_neg (by simpa using h)]
    obtain ⟨h1, h2⟩ := askE_ok h
    rw [Bool.and_eq_true, inI_iff, inI_iff] at h2
    obtain ⟨j, rfl⟩ : ∃ j : Nat, i = j := ⟨i.toNat, by omega⟩
    exact Wait_yes l j gap hl h1 (by omega) h2.2
  · rw [if_pos h]
    exact Wait_no l i gap hl hn h
end Go.Proofs.Ytomfpciigaopiaa
