/- Why nothing is picked; a copy of what is picked from. No condition. -/
import Derived.Test.YtnjgmjcokcfmkaaDoorQj
import Derived.Test.YtnjgmjcokcfmkaaDoorQi
namespace Go.Proofs.YtnjgmjcokcfmkaaDoor
open Go Go.Sy
set_option maxRecDepth 100000
set_option linter.unusedSimpArgs false
set_option linter.unusedVariables false
set_option maxHeartbeats 4000000

theorem why_ok (l : List En) (w : List Wi) (free : Nat) (hl : ∀ x ∈ l, inE x) (hw : ∀ x ∈ w, inW x) (hn : l.length < 2 ^ 34) (hn2 : w.length < 2 ^ 34) : Con Tryd.prog gl0 (fnv 16) [Ak l w free] 0 [] (Ret (I (askP l w free))) := by
  have c1 := rError_ok l w hl hw hn hn2
  have c2 := rright_ok free
  rw [askP]
  generalize pickE l w = e at *
  refine Con.of Tryd.ok16 (nt := 16) (res := [.tmp 2]) Tryd.mixed Tryd.func16 rfl rfl rfl rfl fun κ xc hκ => hκ.run 300 ?_
  simp (disch := omega) only [push_cast, simprocAttr]
  refine Does.ret hκ.hP hκ.hgl c1 ⟨trivial, by first | (simp [SV.bnd, SV.bndL]; done) | (simp [SV.bnd, SV.bndL, ec_bnd]; done), by first | (simp [SV.bnd, SV.bndL]; done) | (simp [SV.bnd, SV.bndL, ec_bnd]; done) | assumption⟩ ?_
  by_cases he : e = 0
  · rw [if_pos he] at hκ
    refine hκ.run 300 ?_
    simp (disch := omega) only [push_cast, simprocAttr, he]
    refine Does.ret hκ.hP hκ.hgl c2 ⟨trivial, by first | (simp [SV.bnd, SV.bndL]; done) | (simp [SV.bnd, SV.bndL, ec_bnd]; done), by first | (simp [SV.bnd, SV.bndL]; done) | (simp [SV.bnd, SV.bndL, ec_bnd]; done) | assumption⟩ ?_
    by_cases hf : free < 256
    · rw [if_pos hf] at hκ
      refine hκ.run 300 ?_
      simp (disch := omega) only [push_cast, simprocAttr, hf]
      refine hκ.ret _ _ _ _ _ _ trivial rfl ?_
      exact .ret trivial
    · rw [if_neg hf] at hκ
      refine hκ.run 300 ?_
      simp (disch := omega) only [push_cast, simprocAttr, hf]
      refine hκ.ret _ _ _ _ _ _ trivial rfl ?_
      exact .ret trivial
  · rw [if_neg he] at hκ
    refine hκ.run 300 ?_
    simp (disch := omega) only [push_cast, simprocAttr, he]
    refine hκ.ret _ _ _ _ _ _ trivial rfl ?_
    exact .ret trivial
end Go.Proofs.YtnjgmjcokcfmkaaDoor
