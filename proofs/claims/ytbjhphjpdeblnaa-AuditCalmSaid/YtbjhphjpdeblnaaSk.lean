/- Spreads, and times that lie apart, with their errors. No condition. -/
import Derived.Test.YtbjhphjpdeblnaaSi
import Derived.Test.YtbjhphjpdeblnaaSj
namespace Go.Proofs.Ytbjhphjpdeblnaa.Sh
open Go Go.Sy
set_option maxRecDepth 100000
set_option linter.unusedSimpArgs false
set_option linter.unusedVariables false

theorem askE_no {l : List Pt} (h : rightP l = false) (b : Bool) : askE l b = 350 := by rw [askE, h]; rfl
theorem askE_arg {l : List Pt} (h : rightP l = true) : askE l false = 2 := by rw [askE, h]; rfl
theorem askE_yes {l : List Pt} (h : rightP l = true) : askE l true = 0 := by rw [askE, h]; rfl
/-- A spread, the error. -/
def spR (l : List Pt) (m gap : Int) : Nat × Int :=
  if askE l (inI m 1 8 && inI gap 1 10000000) ≠ 0 then (0, askE l (inI m 1 8 && inI gap 1 10000000))
  else if feasB l m = true then (spV (spC l m gap) l, 0) else (0, 351)
theorem Spread_ok (l : List Pt) (m gap : Int) (hl : ∀ p ∈ l, inP p) (hn : l.length < 2 ^ 40) : Con Try.prog gl0 (fnv 45) [Ps l, I m, I gap] 0 [] (Ret (.tup [W (spR l m gap).1, I (spR l m gap).2])) := by
  rw [spR]
  by_cases h : askE l (inI m 1 8 && inI gap 1 10000000) = 0
  · rw [if_neg (by simpa using h)]
    obtain ⟨h1, h2⟩ := askE_ok h
    rw [Bool.and_eq_true, inI_iff, inI_iff] at h2
    cases hf : feasB l m
    · rw [if_neg (by decide)]
      exact Spread_inf l m gap hl h1 h2.1 h2.2 hf
    · rw [if_pos rfl]
      exact Spread_yes l m gap hl h1 h2.1 h2.2 hf
  · rw [if_pos h]
    exact Spread_err l m gap hl hn h
/-- Do times lie apart, the error. -/
def apR (l : List Pt) (ts : List Int) (sp : Nat) : Bool × Int := if askE l (okT l ts ts.length) = 0 then (apartB l ts sp, 0) else (false, askE l (okT l ts ts.length))
theorem Apart_ok (l : List Pt) (ts : List Int) (sp : Nat) (hl : ∀ p ∈ l, inP p) (hn : l.length < 2 ^ 40) (ht : ∀ t ∈ ts, i64 t) (htn : ts.length < 2 ^ 40) (hsp : sp < 2 ^ 128) : Con Try.prog gl0 (fnv 49) [Ps l, Ts ts, W sp] 0 [] (Ret (.tup [Bo (apR l ts sp).1, I (apR l ts sp).2])) := by
  rw [apR]
  by_cases h : askE l (okT l ts ts.length) = 0
  · rw [if_pos h]
    obtain ⟨h1, h2⟩ := askE_ok h
    exact Apart_yes l ts sp hl h1 hsp h2
  · rw [if_neg h]
    exact Apart_err l ts sp hl hn ht htn h
end Go.Proofs.Ytbjhphjpdeblnaa.Sh
