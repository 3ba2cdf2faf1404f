/- PickPicks: the walk of the law. No condition. -/
import Derived.Test.YtnjgmjcokcfmkaaDoorQw
import Derived.Test.YtnjgmjcokcfmkaaDoorQx
import Derived.Test.YtnjgmjcokcfmkaaDoorR13c
namespace Go.Proofs.YtnjgmjcokcfmkaaDoor
open Go Go.Sy
set_option maxRecDepth 100000
set_option linter.unusedSimpArgs false
set_option linter.unusedVariables false
set_option maxHeartbeats 8000000

theorem picks_law (l : List En) (w : List Wi) (free : Nat) (hl : ∀ x ∈ l, inE0 x) (hw : ∀ x ∈ w, inW x) (hn : l.length < 2 ^ 46) (hn2 : w.length < 2 ^ 46) (hf : free < 4294967296) : Law Tryd.prog gl0 3 [Ak l w free] := by
  have co := over_ok l w free hn hn2
  refine Law.of (nt := 77) (res := [.tmp 2]) Tryd.mixed Tryd.func3 rfl rfl rfl rfl fun κ xc hκ => hκ.run 300 ?_
  simp (disch := omega) only [push_cast, simprocAttr]
  refine Does.ret hκ.hP hκ.hgl (wakes_ok) ⟨trivial, by first | (simp [SV.bnd, SV.bndL]; done) | (simp [SV.bnd, SV.bndL, ec_bnd]; done), by first | (simp [SV.bnd, SV.bndL]; done) | (simp [SV.bnd, SV.bndL, ec_bnd]; done) | assumption⟩ ?_
  refine hκ.run 300 ?_
  simp (disch := omega) only [push_cast, simprocAttr]
  refine Does.ret hκ.hP hκ.hgl co ⟨trivial, by first | (simp [SV.bnd, SV.bndL]; done) | (simp [SV.bnd, SV.bndL, ec_bnd]; done), by first | (simp [SV.bnd, SV.bndL]; done) | (simp [SV.bnd, SV.bndL, ec_bnd]; done) | assumption⟩ ?_
  cases hov : overB l w
  rotate_left
  · refine hκ.run 300 ?_
    simp (disch := omega) only [push_cast, simprocAttr]
    refine hκ.ret _ _ _ _ _ _ trivial rfl ?_
    rfl
  obtain ⟨b1, b2, b3⟩ := over_bd hov
  have hl' : ∀ x ∈ l, inE x := fun x hx => ⟨(hl x hx).1, by have := b3 x hx; omega⟩
  have c1 := copied_ok l w free hl' (by omega) (by omega)
  have cp := Pick_ok l w free hl' hw (by omega) (by omega) hf
  have cc := Check_ok l w hl' hw (by omega) (by omega)
  have ce := rError_ok l w hl' hw (by omega) (by omega)
  have cy := why_ok l w free hl' hw (by omega) (by omega)
  generalize hpe : pickE l w = pe at *
  by_cases he : askP l w free = 0
  rotate_left
  · rw [pickV, if_neg he] at cp
    generalize askP l w free = e at *
    refine hκ.run 300 ?_
    simp (disch := omega) only [push_cast, simprocAttr]
    refine Does.ret hκ.hP hκ.hgl c1 ⟨trivial, by first | (simp [SV.bnd, SV.bndL]; done) | (simp [SV.bnd, SV.bndL, ec_bnd]; done), by first | (simp [SV.bnd, SV.bndL]; done) | (simp [SV.bnd, SV.bndL, ec_bnd]; done) | assumption⟩ ?_
    refine hκ.run 300 ?_
    simp (disch := omega) only [push_cast, simprocAttr]
    refine Does.ret hκ.hP hκ.hgl cp ⟨trivial, by first | (simp [SV.bnd, SV.bndL]; done) | (simp [SV.bnd, SV.bndL, ec_bnd]; done), by first | (simp [SV.bnd, SV.bndL]; done) | (simp [SV.bnd, SV.bndL, ec_bnd]; done) | assumption⟩ ?_
    refine hκ.runD 300 ?_
    simp (disch := omega) only [push_cast, simprocAttr]
    refine hκ.draw (.q 0 (.q 1 (.q 2 (.q 3 (.q 5 (.q 6 (.q 7 (.q 8 (.l 4 [6, 8] (.l 9 [1, 3] (.q 10 (.fin)))))))))))) [0, 1, 2, 3, 5, 6, 7, 8, 10] (by kernel_rfl) (by kernel_rfl) rfl ?_
    simp (disch := omega) only [push_cast, simprocAttr]
    refine DCall.of (Does.ret hκ.hP hκ.hgl cc ⟨trivial, by first | (simp [SV.bnd, SV.bndL]; done) | (simp [SV.bnd, SV.bndL, ec_bnd]; done), by first | (simp [SV.bnd, SV.bndL]; done) | (simp [SV.bnd, SV.bndL, ec_bnd]; done) | assumption⟩ ?_)
    simp (disch := omega) only [push_cast, simprocAttr]
    refine DCall.of (Does.ret hκ.hP hκ.hgl ce ⟨trivial, by first | (simp [SV.bnd, SV.bndL]; done) | (simp [SV.bnd, SV.bndL, ec_bnd]; done), by first | (simp [SV.bnd, SV.bndL]; done) | (simp [SV.bnd, SV.bndL, ec_bnd]; done) | assumption⟩ ?_)
    simp (disch := omega) only [push_cast, simprocAttr]
    refine hκ.runD 300 ?_
    simp (disch := omega) only [push_cast, simprocAttr]
    refine Does.ret hκ.hP hκ.hgl cy ⟨trivial, by first | (simp [SV.bnd, SV.bndL]; done) | (simp [SV.bnd, SV.bndL, ec_bnd]; done), by first | (simp [SV.bnd, SV.bndL]; done) | (simp [SV.bnd, SV.bndL, ec_bnd]; done) | assumption⟩ ?_
    refine hκ.run 300 ?_
    simp (disch := omega) only [push_cast, simprocAttr, he]
    refine hκ.ret _ _ _ _ _ _ trivial rfl ?_
    rfl
  rw [pickV, if_pos he] at cp
  rw [he] at cy
  obtain ⟨hp0, hf8⟩ := askP_zero he
  obtain ⟨hoL, -, -, -⟩ := pickE_zero hp0
  have cr := rPick_ok l w free hw hp0 (by omega) (by omega) hf8
  have hPl := (pickR_bd w free hf8 l.length l rfl fun x hx => (okL_rng l [] hoL x hx).1.2).2
  have s1 := samePuts_ok (pickR w free l).puts (pickR w free l).puts (by omega)
  have s2 := sameInts_ok (pickR w free l).waits (pickR w free l).waits (by omega)
  rw [decide_eq_true rfl] at s1 s2
  generalize (pickR w free l).puts = P at *
  generalize (pickR w free l).waits = W at *
  refine hκ.run 300 ?_
  simp (disch := omega) only [push_cast, simprocAttr]
  refine Does.ret hκ.hP hκ.hgl c1 ⟨trivial, by first | (simp [SV.bnd, SV.bndL]; done) | (simp [SV.bnd, SV.bndL, ec_bnd]; done), by first | (simp [SV.bnd, SV.bndL]; done) | (simp [SV.bnd, SV.bndL, ec_bnd]; done) | assumption⟩ ?_
  refine hκ.run 300 ?_
  simp (disch := omega) only [push_cast, simprocAttr]
  refine Does.ret hκ.hP hκ.hgl cp ⟨trivial, by first | (simp [SV.bnd, SV.bndL]; done) | (simp [SV.bnd, SV.bndL, ec_bnd]; done), by first | (simp [SV.bnd, SV.bndL]; done) | (simp [SV.bnd, SV.bndL, ec_bnd]; done) | assumption⟩ ?_
  refine hκ.runD 300 ?_
  simp (disch := omega) only [push_cast, simprocAttr]
  refine hκ.draw (.q 0 (.q 1 (.q 2 (.q 3 (.q 5 (.q 6 (.q 7 (.q 8 (.l 4 [6, 8] (.l 9 [1, 3] (.q 10 (.fin)))))))))))) [0, 1, 2, 3, 5, 6, 7, 8, 10] (by kernel_rfl) (by kernel_rfl) rfl ?_
  simp (disch := omega) only [push_cast, simprocAttr]
  refine DCall.of (Does.ret hκ.hP hκ.hgl cc ⟨trivial, by first | (simp [SV.bnd, SV.bndL]; done) | (simp [SV.bnd, SV.bndL, ec_bnd]; done), by first | (simp [SV.bnd, SV.bndL]; done) | (simp [SV.bnd, SV.bndL, ec_bnd]; done) | assumption⟩ ?_)
  simp (disch := omega) only [push_cast, simprocAttr]
  refine DCall.of (Does.ret hκ.hP hκ.hgl ce ⟨trivial, by first | (simp [SV.bnd, SV.bndL]; done) | (simp [SV.bnd, SV.bndL, ec_bnd]; done), by first | (simp [SV.bnd, SV.bndL]; done) | (simp [SV.bnd, SV.bndL, ec_bnd]; done) | assumption⟩ ?_)
  simp (disch := omega) only [push_cast, simprocAttr]
  refine hκ.runD 300 ?_
  simp (disch := omega) only [push_cast, simprocAttr]
  refine Does.ret hκ.hP hκ.hgl cy ⟨trivial, by first | (simp [SV.bnd, SV.bndL]; done) | (simp [SV.bnd, SV.bndL, ec_bnd]; done), by first | (simp [SV.bnd, SV.bndL]; done) | (simp [SV.bnd, SV.bndL, ec_bnd]; done) | assumption⟩ ?_
  refine hκ.run 300 ?_
  simp (disch := omega) only [push_cast, simprocAttr]
  refine Does.ret hκ.hP hκ.hgl cr ⟨trivial, by first | (simp [SV.bnd, SV.bndL]; done) | (simp [SV.bnd, SV.bndL, ec_bnd]; done), by first | (simp [SV.bnd, SV.bndL]; done) | (simp [SV.bnd, SV.bndL, ec_bnd]; done) | assumption⟩ ?_
  refine hκ.run 300 ?_
  simp (disch := omega) only [push_cast, simprocAttr]
  refine Does.ret hκ.hP hκ.hgl s1 ⟨trivial, by first | (simp [SV.bnd, SV.bndL]; done) | (simp [SV.bnd, SV.bndL, ec_bnd]; done), by first | (simp [SV.bnd, SV.bndL]; done) | (simp [SV.bnd, SV.bndL, ec_bnd]; done) | assumption⟩ ?_
  refine hκ.run 300 ?_
  simp (disch := omega) only [push_cast, simprocAttr]
  refine Does.ret hκ.hP hκ.hgl s2 ⟨trivial, by first | (simp [SV.bnd, SV.bndL]; done) | (simp [SV.bnd, SV.bndL, ec_bnd]; done), by first | (simp [SV.bnd, SV.bndL]; done) | (simp [SV.bnd, SV.bndL, ec_bnd]; done) | assumption⟩ ?_
  refine hκ.run 300 ?_
  simp (disch := omega) only [push_cast, simprocAttr]
  refine hκ.ret _ _ _ _ _ _ trivial rfl ?_
  rfl
end Go.Proofs.YtnjgmjcokcfmkaaDoor
