/- Walks of the reference's words on wishes: who goes where. No condition. -/
import Derived.Test.YtnjgmjcokcfmkaaDoorR13
namespace Go.Proofs.YtnjgmjcokcfmkaaDoor
open Go Go.Sy
set_option maxRecDepth 100000
set_option linter.unusedSimpArgs false
set_option linter.unusedVariables false

theorem rtakes_ok (w : Wi) (s : Nat) (hw : inW w) (hm : okM w.m = true) (hs : s < 256) : Con Tryd.prog gl0 (fnv 72) [.agg (eW w), S s] 0 [] (Ret (I ((takesW w s).getD (-1)))) := by
  refine Con.of Tryd.ok72 (nt := 27) (res := [.tmp 4]) Tryd.mixed Tryd.func72 rfl rfl rfl rfl fun κ xc hκ => hκ.run 300 ?_
  simp (disch := omega) only [push_cast, simprocAttr, eW]
  refine hκ.draw (.q 0 (.q 1 (.q 2 (.q 4 (.q 5 (.l 3 [5] (.l 6 [1] (.fin)))))))) [0, 1, 2, 4, 5] (by kernel_rfl) (by kernel_rfl) rfl ?_
  simp (disch := omega) only [push_cast, simprocAttr, eW]
  refine DCall.of (Does.ret hκ.hP hκ.hgl (rallows_ok w.m s hm hs) ⟨trivial, by first | (simp [SV.bnd, SV.bndL]; done) | (simp [SV.bnd, SV.bndL, ec_bnd]; done), by first | (simp [SV.bnd, SV.bndL]; done) | (simp [SV.bnd, SV.bndL, ec_bnd]; done) | assumption⟩ ?_)
  simp (disch := omega) only [push_cast, simprocAttr, eW]
  refine DCall.of (Does.ret hκ.hP hκ.hgl (rhas_ok (alw w.m s) w.a) ⟨trivial, by first | (simp [SV.bnd, SV.bndL]; done) | (simp [SV.bnd, SV.bndL, ec_bnd]; done), by first | (simp [SV.bnd, SV.bndL]; done) | (simp [SV.bnd, SV.bndL, ec_bnd]; done) | assumption⟩ ?_)
  cases hb : hasB (alw w.m s) w.a
  · simp (disch := omega) only [push_cast, simprocAttr, eW]
    refine hκ.run 300 ?_
    simp (disch := omega) only [push_cast, simprocAttr, eW]
    refine Does.ret hκ.hP hκ.hgl (rlikes_ok w.m s hm hs) ⟨trivial, by first | (simp [SV.bnd, SV.bndL]; done) | (simp [SV.bnd, SV.bndL, ec_bnd]; done), by first | (simp [SV.bnd, SV.bndL]; done) | (simp [SV.bnd, SV.bndL, ec_bnd]; done) | assumption⟩ ?_
    refine hκ.run 300 ?_
    simp (disch := omega) only [push_cast, simprocAttr, eW]
    refine Does.ret hκ.hP hκ.hgl (rnext_ok (lik w.m s) (-1)) ⟨trivial, by first | (simp [SV.bnd, SV.bndL]; done) | (simp [SV.bnd, SV.bndL, ec_bnd]; done), by first | (simp [SV.bnd, SV.bndL]; done) | (simp [SV.bnd, SV.bndL, ec_bnd]; done) | assumption⟩ ?_
    have e : takesW w s = nextB (lik w.m s) (-1) := by simp only [takesW, bestB, hb, Bool.false_eq_true, if_false]
    rw [e] at hκ
    cases hn : nextB (lik w.m s) (-1) with
    | none =>
      rw [hn] at hκ
      simp only [Option.isSome_none, Option.getD_none]
      refine hκ.run 300 ?_
      simp (disch := omega) only [push_cast, simprocAttr, eW]
      refine hκ.ret _ _ _ _ _ _ trivial rfl ?_
      exact .ret trivial
    | some c =>
      rw [hn] at hκ
      simp only [Option.isSome_some, Option.getD_some]
      refine hκ.run 300 ?_
      simp (disch := omega) only [push_cast, simprocAttr, eW]
      refine hκ.ret _ _ _ _ _ _ trivial rfl ?_
      exact .ret trivial
  · simp (disch := omega) only [push_cast, simprocAttr, eW]
    refine hκ.run 300 ?_
    simp (disch := omega) only [push_cast, simprocAttr, eW]
    refine hκ.ret _ _ _ _ _ _ trivial rfl ?_
    simp only [takesW, bestB, hb, if_true]
    exact .ret trivial
end Go.Proofs.YtnjgmjcokcfmkaaDoor
