/- PickChoices: the walk of the law. No condition. -/
import Derived.Test.YtnjgmjcokcfmkaaDoorQg
namespace Go.Proofs.YtnjgmjcokcfmkaaDoor
open Go Go.Sy
set_option maxRecDepth 100000
set_option linter.unusedSimpArgs false
set_option linter.unusedVariables false
set_option maxHeartbeats 4000000

theorem alw_no {m : Msk} {s : Nat} (h : ¬ (okM m = true ∧ s < 256)) : alw m s = 0 := if_neg h
theorem chs_no {w : Wi} {free : Nat} (h : ¬ (okM w.m = true ∧ free < 256)) : chs w free = [] := by
  have h1 := alw_no h
  have h2 : lik w.m free = 0 := by
    rw [lik, h1]; simp
  rw [chs, h1, h2, if_neg (by simp [hasB])]
  decide
theorem choices_law (w : Wi) (free : Nat) (hw : inW w) (hf : free < 4294967296) : Law Tryd.prog gl0 4 [.agg (eW w), S free] := by
  have c1 := (Choices_ok w free hw hf).toRd
  have c2 := rmright_ok w.m
  have c3 := rright_ok free
  have hlen := chs_len w free
  have c5 := sameInts_ok (chs w free) (chs w free) (by omega)
  rw [decide_eq_true rfl] at c5
  refine Law.of (nt := 28) (res := [.tmp 4]) Tryd.mixed Tryd.func4 rfl rfl rfl rfl fun κ xc hκ => hκ.run 300 ?_
  simp (disch := omega) only [push_cast, simprocAttr, eW]
  refine Does.ret hκ.hP hκ.hgl (wakes_ok) ⟨trivial, by first | (simp [SV.bnd, SV.bndL]; done) | (simp [SV.bnd, SV.bndL, ec_bnd]; done), by first | (simp [SV.bnd, SV.bndL]; done) | (simp [SV.bnd, SV.bndL, ec_bnd]; done) | assumption⟩ ?_
  refine hκ.run 300 ?_
  simp (disch := omega) only [push_cast, simprocAttr, eW]
  refine Does.ret hκ.hP hκ.hgl c1 ⟨trivial, by first | (simp [SV.bnd, SV.bndL]; done) | (simp [SV.bnd, SV.bndL, ec_bnd]; done), by first | (simp [SV.bnd, SV.bndL]; done) | (simp [SV.bnd, SV.bndL, ec_bnd]; done) | assumption⟩ ?_
  refine hκ.run 300 ?_
  simp (disch := omega) only [push_cast, simprocAttr, eW]
  by_cases ho : okM w.m = true ∧ free < 256
  · have c4 := (rChoices_ok w free hw ho.1 ho.2).toRd
    rw [ho.1] at c2
    rw [decide_eq_true ho.2] at c3
    generalize chs w free = l at *
    refine Does.ret hκ.hP hκ.hgl c2 ⟨trivial, by first | (simp [SV.bnd, SV.bndL]; done) | (simp [SV.bnd, SV.bndL, ec_bnd]; done), by first | (simp [SV.bnd, SV.bndL]; done) | (simp [SV.bnd, SV.bndL, ec_bnd]; done) | assumption⟩ ?_
    refine hκ.run 300 ?_
    simp (disch := omega) only [push_cast, simprocAttr, eW]
    refine Does.ret hκ.hP hκ.hgl c3 ⟨trivial, by first | (simp [SV.bnd, SV.bndL]; done) | (simp [SV.bnd, SV.bndL, ec_bnd]; done), by first | (simp [SV.bnd, SV.bndL]; done) | (simp [SV.bnd, SV.bndL, ec_bnd]; done) | assumption⟩ ?_
    refine hκ.run 300 ?_
    simp (disch := omega) only [push_cast, simprocAttr, eW]
    refine Does.ret hκ.hP hκ.hgl c4 ⟨trivial, by first | (simp [SV.bnd, SV.bndL]; done) | (simp [SV.bnd, SV.bndL, ec_bnd]; done), by first | (simp [SV.bnd, SV.bndL]; done) | (simp [SV.bnd, SV.bndL, ec_bnd]; done) | assumption⟩ ?_
    refine hκ.run 300 ?_
    simp (disch := omega) only [push_cast, simprocAttr, eW]
    refine Does.ret hκ.hP hκ.hgl c5 ⟨trivial, by first | (simp [SV.bnd, SV.bndL]; done) | (simp [SV.bnd, SV.bndL, ec_bnd]; done), by first | (simp [SV.bnd, SV.bndL]; done) | (simp [SV.bnd, SV.bndL, ec_bnd]; done) | assumption⟩ ?_
    refine hκ.run 300 ?_
    simp (disch := omega) only [push_cast, simprocAttr, eW]
    refine hκ.ret _ _ _ _ _ _ trivial rfl ?_
    rfl
  · rw [chs_no ho] at *
    cases hm : okM w.m
    · rw [hm] at c2
      refine Does.ret hκ.hP hκ.hgl c2 ⟨trivial, by first | (simp [SV.bnd, SV.bndL]; done) | (simp [SV.bnd, SV.bndL, ec_bnd]; done), by first | (simp [SV.bnd, SV.bndL]; done) | (simp [SV.bnd, SV.bndL, ec_bnd]; done) | assumption⟩ ?_
      refine hκ.run 300 ?_
      simp (disch := omega) only [push_cast, simprocAttr, eW]
      refine hκ.ret _ _ _ _ _ _ trivial rfl ?_
      rfl
    · rw [hm] at c2 ho
      rw [decide_eq_false (fun h => ho ⟨rfl, h⟩)] at c3
      refine Does.ret hκ.hP hκ.hgl c2 ⟨trivial, by first | (simp [SV.bnd, SV.bndL]; done) | (simp [SV.bnd, SV.bndL, ec_bnd]; done), by first | (simp [SV.bnd, SV.bndL]; done) | (simp [SV.bnd, SV.bndL, ec_bnd]; done) | assumption⟩ ?_
      refine hκ.run 300 ?_
      simp (disch := omega) only [push_cast, simprocAttr, eW]
      refine Does.ret hκ.hP hκ.hgl c3 ⟨trivial, by first | (simp [SV.bnd, SV.bndL]; done) | (simp [SV.bnd, SV.bndL, ec_bnd]; done), by first | (simp [SV.bnd, SV.bndL]; done) | (simp [SV.bnd, SV.bndL, ec_bnd]; done) | assumption⟩ ?_
      refine hκ.run 300 ?_
      simp (disch := omega) only [push_cast, simprocAttr, eW]
      refine hκ.ret _ _ _ _ _ _ trivial rfl ?_
      rfl
end Go.Proofs.YtnjgmjcokcfmkaaDoor
