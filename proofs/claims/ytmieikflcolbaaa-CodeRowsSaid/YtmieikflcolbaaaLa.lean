/- CodeApart: the walk of the law. No condition. -/
import Derived.Test.YtmieikflcolbaaaWa
import Derived.Test.YtmieikflcolbaaaVh
namespace Go.Proofs.Ytmieikflcolbaaa
open Go Go.Sy
set_option maxRecDepth 100000
set_option linter.unusedSimpArgs false
set_option linter.unusedVariables false
set_option maxHeartbeats 4000000
structure wf0 (a : Evt) : Prop where
  i : ∀ i, -2 ^ 63 ≤ a.1 i ∧ a.1 i < 2 ^ 63
  u : ∀ i, (i = 13 ∨ i = 14 ∨ i = 24 ∨ i = 25 ∨ i = 26) → 0 ≤ a.1 i ∧ a.1 i < 2 ^ 32
  f : a.1 5 = 0 ∨ a.1 5 = 1
  z : ∀ i, (i = 6 ∨ i = 27 ∨ 29 ≤ i) → a.1 i = 0
  n : ∀ x ∈ a.2.1, -2 ^ 63 ≤ x ∧ x < 2 ^ 63
  m : ∀ x ∈ a.2.2, -2 ^ 63 ≤ x ∧ x < 2 ^ 63
  nl : a.2.1.length < 2 ^ 46
  ml : a.2.2.length < 2 ^ 46
theorem wf_few {a : Evt} (h : wf0 a) : wf (few a) :=
  ⟨h.i, h.u, h.f, h.z, fun x hx => h.n x (List.mem_of_mem_take hx), fun x hx => h.m x (List.mem_of_mem_take hx), by show (a.2.1.take 33).length < _; rw [List.length_take]; omega, by show (a.2.2.take 33).length < _; rw [List.length_take]; omega⟩
theorem isB_Y {l : List Int} (h : isY l) : isB l := fun b hb => by have := h b hb; omega
theorem few_okw (a : Evt) (h : wf0 a) : Con Try.prog gl0 (fnv 13) [Ev a] 0 [] (Ret (Ev (few a))) := few_ok a ⟨h.nl, h.ml⟩
end Go.Proofs.Ytmieikflcolbaaa
