/- Walks of the reference's words on masks. No condition. -/
import Derived.Test.YtnjgmjcokcfmkaaDoorR4
import Derived.Test.YtnjgmjcokcfmkaaDoorMk
namespace Go.Proofs.YtnjgmjcokcfmkaaDoor
open Go Go.Sy
set_option maxRecDepth 100000
set_option linter.unusedSimpArgs false
set_option linter.unusedVariables false

theorem rmright_ok (m : Msk) : Con Tryd.prog gl0 (fnv 21) [Mk m] 0 [] (Ret (Bo (okM m))) := by
  have e3 : decide ((0 : Int) < m.1) = decide (m.1 ≠ 0) := decide_eq_decide.2 (by omega)
  refine Con.of Tryd.ok21 (nt := 16) (res := [.tmp 2]) Tryd.mixed Tryd.func21 rfl rfl rfl rfl fun κ xc hκ => hκ.run 300 ?_
  simp (disch := omega) only [push_cast, simprocAttr]
  refine Does.ret hκ.hP hκ.hgl (rright_ok m.1) ⟨trivial, by first | (simp [SV.bnd, SV.bndL]; done) | (simp [SV.bnd, SV.bndL, ec_bnd]; done), by first | (simp [SV.bnd, SV.bndL]; done) | (simp [SV.bnd, SV.bndL, ec_bnd]; done) | assumption⟩ ?_
  cases h1 : decide (m.1 < 256)
  · refine hκ.run 300 ?_
    simp (disch := omega) only [push_cast, simprocAttr]
    refine hκ.ret _ _ _ _ _ _ trivial rfl ?_
    rw [okM, h1]
    exact .ret trivial
  · refine hκ.run 300 ?_
    simp (disch := omega) only [push_cast, simprocAttr]
    refine Does.ret hκ.hP hκ.hgl (rright_ok m.2) ⟨trivial, by first | (simp [SV.bnd, SV.bndL]; done) | (simp [SV.bnd, SV.bndL, ec_bnd]; done), by first | (simp [SV.bnd, SV.bndL]; done) | (simp [SV.bnd, SV.bndL, ec_bnd]; done) | assumption⟩ ?_
    cases h2 : decide (m.2 < 256)
    · refine hκ.run 300 ?_
      simp (disch := omega) only [push_cast, simprocAttr]
      refine hκ.ret _ _ _ _ _ _ trivial rfl ?_
      rw [okM, h1, h2]
      exact .ret trivial
    · refine hκ.run 300 ?_
      simp (disch := omega) only [push_cast, simprocAttr]
      rw [e3]
      refine hκ.ret _ _ _ _ _ _ trivial rfl ?_
      rw [okM, h1, h2]
      exact .ret trivial
theorem rallows_ok (m : Msk) (s : Nat) (hm : okM m = true) (hs : s < 256) : Con Tryd.prog gl0 (fnv 50) [Mk m, S s] 0 [] (Ret (S (alw m s))) := by
  obtain ⟨m1, m2, m3⟩ := okM_iff.1 hm
  refine Con.of Tryd.ok50 (nt := 9) (res := [.tmp 4]) Tryd.mixed Tryd.func50 rfl rfl rfl rfl fun κ xc hκ => hκ.run 300 ?_
  simp (disch := omega) only [push_cast, simprocAttr, and32]
  refine hκ.ret _ _ _ _ _ _ trivial rfl ?_
  rw [alw, if_pos ⟨hm, hs⟩]
  exact .ret trivial
theorem rlikes_ok (m : Msk) (s : Nat) (hm : okM m = true) (hs : s < 256) : Con Tryd.prog gl0 (fnv 51) [Mk m, S s] 0 [] (Ret (S (lik m s))) := by
  obtain ⟨m1, m2, m3⟩ := okM_iff.1 hm
  have ha : alw m s = m.1 &&& s := by rw [alw, if_pos ⟨hm, hs⟩]
  have hlt : m.1 &&& s < 256 := Nat.lt_of_le_of_lt Nat.and_le_right hs
  refine Con.of Tryd.ok51 (nt := 24) (res := [.tmp 4]) Tryd.mixed Tryd.func51 rfl rfl rfl rfl fun κ xc hκ => hκ.run 300 ?_
  simp (disch := omega) only [push_cast, simprocAttr, and32]
  refine OutOK_fork (fun h => ?_) (fun h => ?_) <;> try simp only [Bool.not_true, Bool.not_false, decide_eq_true_eq, decide_eq_false_iff_not, Bool.not_eq_true', Bool.not_eq_false', Bool.and_eq_true, Bool.or_eq_false_iff, Bool.or_eq_true, Bool.and_eq_false_iff] at h
  · simp (disch := omega) only [push_cast, simprocAttr, and32]
    refine hκ.ret _ _ _ _ _ _ trivial rfl ?_
    rw [lik, ha, if_pos (by omega)]
    exact .ret trivial
  · simp (disch := omega) only [push_cast, simprocAttr, and32]
    refine hκ.ret _ _ _ _ _ _ trivial rfl ?_
    rw [lik, ha, if_neg (by omega)]
    exact .ret trivial
end Go.Proofs.YtnjgmjcokcfmkaaDoor
