/- The document's words: what counts, letter by letter. No condition. -/
import Derived.Test.YtmieikflcolbaaaWa
import Derived.Test.YtmieikflcolbaaaVh
namespace Go.Proofs.Ytmieikflcolbaaa
open Go Go.Sy
set_option maxRecDepth 100000
set_option linter.unusedSimpArgs false
set_option linter.unusedVariables false
set_option maxHeartbeats 4000000
abbrev C8 (c : Nat) : SV := .v (.int .u8 c)
def U1 : List Nat := [100, 119, 99, 113, 118, 112, 111, 102, 97, 101, 116, 68, 87, 67, 80, 86, 71, 83, 73, 85]
theorem width_ok (c : Nat) (hc : c ∈ U1) : Con Try.prog gl0 (fnv 39) [C8 c] 0 [] (Ret (I (wid c))) := by
  simp only [U1, List.mem_cons, List.not_mem_nil, or_false] at hc
  rcases hc with rfl | rfl | rfl | rfl | rfl | rfl | rfl | rfl | rfl | rfl | rfl | rfl | rfl | rfl | rfl | rfl | rfl | rfl | rfl | rfl
  all_goals
    refine Con.of Try.ok39 (nt := 20) (res := [.tmp 2]) Try.mixed Try.func39 rfl rfl rfl rfl fun κ xc hκ => hκ.run 300 ?_
    simp (disch := omega) only [push_cast, simprocAttr]
    refine hκ.ret _ _ _ _ _ _ trivial rfl ?_
    exact .ret trivial
theorem get_ok (a : Evt) (c : Nat) (hc : c ∈ U1) (h5 : a.1 5 = 0 ∨ a.1 5 = 1) (hS : 0 ≤ a.1 26 ∧ a.1 26 < 2 ^ 32) : Con Try.prog gl0 (fnv 32) [Ev a, C8 c] 0 [] (Ret (I (a.1 (cel c)))) := by
  by_cases h1 : c = 102
  · subst h1
    rcases h5 with h5 | h5
    · have e : a.1 (cel 102) = 0 := h5
      rw [e]
      refine Con.of Try.ok32 (nt := 103) (res := [.tmp 4]) Try.mixed Try.func32 rfl rfl rfl rfl fun κ xc hκ => hκ.run 300 ?_
      simp (disch := omega) only [push_cast, simprocAttr, ec, h5]
      refine hκ.ret _ _ _ _ _ _ trivial rfl ?_
      exact .ret trivial
    · have e : a.1 (cel 102) = 1 := h5
      rw [e]
      refine Con.of Try.ok32 (nt := 103) (res := [.tmp 4]) Try.mixed Try.func32 rfl rfl rfl rfl fun κ xc hκ => hκ.run 300 ?_
      simp (disch := omega) only [push_cast, simprocAttr, ec, h5]
      refine hκ.ret _ _ _ _ _ _ trivial rfl ?_
      exact .ret trivial
  simp only [U1, List.mem_cons, List.not_mem_nil, or_false] at hc
  rcases hc with rfl | rfl | rfl | rfl | rfl | rfl | rfl | rfl | rfl | rfl | rfl | rfl | rfl | rfl | rfl | rfl | rfl | rfl | rfl | rfl
  all_goals first | exact absurd rfl h1 | skip
  all_goals
    refine Con.of Try.ok32 (nt := 103) (res := [.tmp 4]) Try.mixed Try.func32 rfl rfl rfl rfl fun κ xc hκ => hκ.run 300 ?_
    simp (disch := omega) only [push_cast, simprocAttr, ec]
    refine hκ.ret _ _ _ _ _ _ trivial rfl ?_
    exact .ret trivial
theorem put40_ok (b : Evt) (c : Nat) (n : Int) (hc : c ∈ U1) (hS : c = 83 → 0 ≤ n ∧ n < 2 ^ 32) : Con Try.prog gl0 (fnv 40) [Ev b, C8 c, I n] 0 [] (Ret (Ev (upd b (cel c) n))) := by
  simp only [U1, List.mem_cons, List.not_mem_nil, or_false] at hc
  rcases hc with rfl | rfl | rfl | rfl | rfl | rfl | rfl | rfl | rfl | rfl | rfl | rfl | rfl | rfl | rfl | rfl | rfl | rfl | rfl | rfl
  all_goals try (have hS := hS rfl)
  all_goals
    refine Con.of Try.ok40 (nt := 112) (res := [.cell 6 37]) Try.mixed Try.func40 rfl rfl rfl rfl fun κ xc hκ => hκ.run 300 ?_
    simp (disch := omega) only [push_cast, simprocAttr, ec]
    refine hκ.ret _ _ _ _ _ _ trivial rfl ?_
    exact .ret (ec_bnd _ _)
end Go.Proofs.Ytmieikflcolbaaa
