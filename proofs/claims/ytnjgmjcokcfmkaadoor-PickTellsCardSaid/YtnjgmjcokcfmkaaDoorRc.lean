/- slices.Sort of nothing; two rows of placements, one behind the other. No condition. -/
import Derived.Test.YtnjgmjcokcfmkaaDoorSs
import Derived.Test.YtnjgmjcokcfmkaaDoorQi
namespace Go.Proofs.YtnjgmjcokcfmkaaDoor
open Go Go.Sy
set_option maxRecDepth 100000
set_option linter.unusedSimpArgs false
set_option linter.unusedVariables false
set_option maxHeartbeats 4000000

theorem sort0_ok : Con Tryd.prog gl0 (fnv 63) [Is []] 0 [] (Ret (.tup [])) := by
  refine Con.noArg fun a cap => ?_
  refine Con.of Tryd.ok63 (nt := 11) (res := []) Tryd.mixed Tryd.func63 rfl rfl rfl rfl fun κ xc hκ => hκ.run 300 ?_
  simp (disch := omega) only [push_cast, simprocAttr]
  refine Does.inl hκ.hP hκ.hgl Tryd.ok84 (nt := 8) (res := [.tmp 2]) Tryd.mixed Tryd.func84 rfl rfl rfl rfl fun κ_h1 x_h1 h1 => h1.run 300 ?_
  simp (disch := omega) only [push_cast, simprocAttr]
  refine Does.inl h1.hP h1.hgl Tryd.ok104 (nt := 25) (res := [.tmp 2]) Tryd.mixed Tryd.func104 rfl rfl rfl rfl fun κ_h2 x_h2 h2 => h2.run 300 ?_
  simp (disch := omega) only [push_cast, simprocAttr]
  refine ⟨by decide, fun _ => ?_⟩
  refine h2.ret _ _ _ _ _ _ trivial rfl ?_
  refine h1.run 300 ?_
  simp (disch := omega) only [push_cast, simprocAttr]
  refine h1.ret _ _ _ _ _ _ trivial rfl ?_
  refine hκ.run 300 ?_
  simp (disch := omega) only [push_cast, simprocAttr]
  refine Does.inl hκ.hP hκ.hgl Tryd.ok83 (nt := 134) (res := []) Tryd.mixed Tryd.func83 rfl rfl rfl rfl fun κ_h3 x_h3 h3 => h3.run 300 ?_
  simp (disch := omega) only [push_cast, simprocAttr]
  refine Sat.enter ?_
  refine h3.run 300 ?_
  simp (disch := omega) only [push_cast, simprocAttr]
  refine Does.inl h3.hP h3.hgl Tryd.ok94 (nt := 49) (res := []) Tryd.mixed Tryd.func94 rfl rfl rfl rfl fun κ_h4 x_h4 h4 => h4.run 300 ?_
  simp (disch := omega) only [push_cast, simprocAttr]
  refine Sat.enter ?_
  refine h4.run 300 ?_
  simp (disch := omega) only [push_cast, simprocAttr]
  refine h4.fin _ _ _ _ _ trivial rfl ?_
  refine h3.run 300 ?_
  simp (disch := omega) only [push_cast, simprocAttr]
  refine h3.ret _ _ _ _ _ _ trivial rfl ?_
  refine hκ.run 300 ?_
  simp (disch := omega) only [push_cast, simprocAttr]
  refine hκ.fin _ _ _ _ _ trivial rfl ?_
  exact .ret trivial
theorem concat_ok (a b : List (Int × Int)) (hn : a.length + b.length < 2 ^ 40) : Con Tryd.prog gl0 (fnv 61) [.rd 1 [[Ps a], [Ps b]]] 0 [] (Ret (Ps (a ++ b))) := by
  refine Con.toRd (T := 68) (xs := (a ++ b).map eP) ?_
  by_cases h : 0 < a.length + b.length
  rotate_left
  · obtain rfl := List.eq_nil_of_length_eq_zero (show a.length = 0 by omega)
    obtain rfl := List.eq_nil_of_length_eq_zero (show b.length = 0 by omega)
    refine Con.of Tryd.ok61 (nt := 36) (res := [.tmp 2]) Tryd.mixed Tryd.func61 rfl rfl rfl rfl fun κ xc hκ => hκ.run 300 ?_
    simp (disch := omega) only [push_cast, simprocAttr]
    refine Sat.enter ?_
    refine hκ.run 300 ?_
    simp (disch := omega) only [push_cast, simprocAttr]
    refine Sat.again ?_
    refine hκ.run 300 ?_
    simp (disch := omega) only [push_cast, simprocAttr]
    refine Sat.again ?_
    refine hκ.run 300 ?_
    simp (disch := omega) only [push_cast, simprocAttr]
    refine Does.inl hκ.hP hκ.hgl Tryd.ok82 (nt := 27) (res := [.tmp 4]) Tryd.mixed Tryd.func82 rfl rfl rfl rfl fun κ_hg x_hg hg => hg.run 300 ?_
    simp (disch := omega) only [push_cast, simprocAttr]
    refine hg.ret _ _ _ _ _ _ trivial rfl ?_
    refine hκ.run 300 ?_
    simp (disch := omega) only [push_cast, simprocAttr]
    refine Sat.enter ?_
    refine hκ.run 300 ?_
    simp (disch := omega) only [push_cast, simprocAttr]
    intro c1
    refine Sat.again ?_
    refine hκ.run 300 ?_
    simp (disch := omega) only [push_cast, simprocAttr]
    (repeat (refine ⟨by first | omega | (refine ⟨?_, ?_⟩ <;> omega) | trivial | (simp; done) | decide +kernel, fun _ => ?_⟩))
    intro c2
    refine Sat.again ?_
    refine hκ.run 300 ?_
    simp (disch := omega) only [push_cast, simprocAttr]
    refine hκ.ret _ _ _ _ _ _ trivial rfl ?_
    exact Post.row rfl rfl
  · have e0 : ((a.length : Int) + b.length).toNat = a.length + b.length := by omega
    refine Con.of Tryd.ok61 (nt := 36) (res := [.tmp 2]) Tryd.mixed Tryd.func61 rfl rfl rfl rfl fun κ xc hκ => hκ.run 300 ?_
    simp (disch := omega) only [push_cast, simprocAttr, e0]
    refine Sat.enter ?_
    refine hκ.run 300 ?_
    simp (disch := omega) only [push_cast, simprocAttr, e0]
    refine OutOK_fork (fun h => (by first | (have h := of_decide_eq_true h; omega) | (simp only [Bool.not_true, Bool.not_false, decide_eq_true_eq, decide_eq_false_iff_not, Bool.not_eq_true', Bool.not_eq_false', Bool.and_eq_true, Bool.or_eq_false_iff, Bool.or_eq_true, Bool.and_eq_false_iff] at h; omega))) (fun _ => ?_)
    simp (disch := omega) only [push_cast, simprocAttr, e0]
    refine Sat.again ?_
    refine hκ.run 300 ?_
    simp (disch := omega) only [push_cast, simprocAttr, e0]
    refine OutOK_fork (fun h => (by first | (have h := of_decide_eq_true h; omega) | (simp only [Bool.not_true, Bool.not_false, decide_eq_true_eq, decide_eq_false_iff_not, Bool.not_eq_true', Bool.not_eq_false', Bool.and_eq_true, Bool.or_eq_false_iff, Bool.or_eq_true, Bool.and_eq_false_iff] at h; omega))) (fun _ => ?_)
    simp (disch := omega) only [push_cast, simprocAttr, e0]
    refine Sat.again ?_
    refine hκ.run 300 ?_
    simp (disch := omega) only [push_cast, simprocAttr, e0]
    refine Does.inl hκ.hP hκ.hgl Tryd.ok82 (nt := 27) (res := [.tmp 4]) Tryd.mixed Tryd.func82 rfl rfl rfl rfl fun κ_hg x_hg hg => hg.run 300 ?_
    simp (disch := omega) only [push_cast, simprocAttr, e0]
    refine OutOK_fork (fun h => (by first | (have h := of_decide_eq_true h; omega) | (simp only [Bool.not_true, Bool.not_false, decide_eq_true_eq, decide_eq_false_iff_not, Bool.not_eq_true', Bool.not_eq_false', Bool.and_eq_true, Bool.or_eq_false_iff, Bool.or_eq_true, Bool.and_eq_false_iff] at h; omega))) (fun _ => ?_)
    simp (disch := omega) only [push_cast, simprocAttr, e0]
    refine OutOK_fork (fun _ => ?_) (fun h => (by first | (have h := of_decide_eq_false h; omega) | (simp only [Bool.not_true, Bool.not_false, decide_eq_true_eq, decide_eq_false_iff_not, Bool.not_eq_true', Bool.not_eq_false', Bool.and_eq_true, Bool.or_eq_false_iff, Bool.or_eq_true, Bool.and_eq_false_iff] at h; omega)))
    simp (disch := omega) only [push_cast, simprocAttr, e0]
    (repeat (refine ⟨by first | omega | (refine ⟨?_, ?_⟩ <;> omega) | trivial | (simp; done) | decide +kernel, fun _ => ?_⟩))
    intro c
    (repeat (refine ⟨by first | omega | (refine ⟨?_, ?_⟩ <;> omega) | trivial | (simp; done) | decide +kernel, fun _ => ?_⟩))
    refine hg.ret _ _ _ _ _ _ trivial rfl ?_
    refine hκ.run 300 ?_
    simp (disch := omega) only [push_cast, simprocAttr, e0]
    refine Sat.enter ?_
    refine hκ.run 300 ?_
    simp (disch := omega) only [push_cast, simprocAttr, e0]
    (repeat (refine ⟨by first | omega | (refine ⟨?_, ?_⟩ <;> omega) | trivial | (simp; done) | decide +kernel, fun _ => ?_⟩))
    intro c1
    refine Sat.again ?_
    refine hκ.run 300 ?_
    simp (disch := omega) only [push_cast, simprocAttr, e0]
    (repeat (refine ⟨by first | omega | (refine ⟨?_, ?_⟩ <;> omega) | trivial | (simp; done) | decide +kernel, fun _ => ?_⟩))
    intro c2
    refine Sat.again ?_
    refine hκ.run 300 ?_
    simp (disch := omega) only [push_cast, simprocAttr, e0]
    refine hκ.ret _ _ _ _ _ _ trivial rfl ?_
    have et : List.take a.length (List.map eP a) = List.map eP a := List.take_of_length_le (by simp)
    rw [et, ← List.map_append]
    exact Post.row rfl (by simp)
end Go.Proofs.YtnjgmjcokcfmkaaDoor
