/- Walks of the reference's words on masks. No condition. -/
import Derived.Test.YtgnkhcnpjediaaaDoorR4
import Derived.Test.YtgnkhcnpjediaaaDoorMk
namespace Go.Proofs.YtgnkhcnpjediaaaDoor
open Go Go.Sy
set_option maxRecDepth 100000
set_option linter.unusedSimpArgs false
set_option linter.unusedVariables false

theorem rmright_ok (m : Msk) : Con Tryd.prog gl0 (fnv 30) [Mk m] 0 [] (Ret (Bo (okM m))) := by
  have e3 : decide ((0 : Int) < m.1) = decide (m.1 ≠ 0) := decide_eq_decide.2 (by omega)
  refine Con.of Tryd.ok30 (nt := 16) (res := [.tmp 2]) Tryd.mixed Tryd.func30 rfl rfl rfl rfl fun κ xc hκ => hκ.run 300 ?_
  simp (disch := omega) only [exec_succ, runR_next, runR_call, stepS, runOp, toSR, sop, rOf, rNew, sBox, isArr, sLoadIn, sLoad, sFieldAddr, ev, evs, Env.get, Heap.get, takeN, cut, aggOf, cellsS, envOf, OutOK_call, Bool.false_eq_true, List.size_toArray, List.length_cons, List.length_nil, List.range, List.range.loop, List.getElem?_toArray, List.getElem?_cons_succ, List.getElem?_cons_zero, ↓reduceIte, Nat.reduceAdd, Nat.reduceLT, Nat.reduceEqDiff, Nat.zero_add, Nat.add_zero, Nat.add_one_ne_zero, gl0, Tryd.sz24, Tryd.ag24, Tryd.fd34f0]
  refine Does.ret hκ.hP hκ.hgl (rright_ok m.1) ⟨trivial, by simp [SV.bnd, SV.bndL], by first | (simp [SV.bnd, SV.bndL]; done) | assumption⟩ ?_
  cases h1 : decide (m.1 < 256)
  · refine hκ.run 300 ?_
    simp (disch := omega) only [exec_succ, runR_next, runR_guard_ft, runR_stop, stepS, runOp, guardS, toSR, sop, rOf, sPick, sLoad, sBin, sFieldAddr, ev, evs, Env.get, setO, OutOK_stop, undefS, undef, List.getElem?_toArray, List.getElem?_cons_succ, List.getElem?_cons_zero, Option.bind_some, ↓reduceIte, Nat.reduceLT, Nat.reduceEqDiff, Nat.zero_add, Nat.add_zero, Nat.add_one_ne_zero, Bool.not_true, and_self, gl0, Tryd.fd34f0, Tryd.fd34f1]
    refine hκ.ret _ _ _ _ _ _ trivial rfl ?_
    rw [okM, h1]
    exact .ret trivial
  · refine hκ.run 300 ?_
    simp (disch := omega) only [exec_succ, runR_next, runR_guard_tt, runR_call, stepS, runOp, guardS, toSR, sop, rOf, sLoadIn, sLoad, sFieldAddr, ev, evs, Env.get, Heap.get, takeN, cut, aggOf, setO, OutOK_call, undefS, undef, List.getElem?_toArray, List.getElem?_cons_succ, List.getElem?_cons_zero, Option.bind_some, ↓reduceIte, Nat.reduceLT, Nat.reduceEqDiff, Nat.zero_add, Nat.add_one_ne_zero, Bool.not_true, and_self, gl0, Tryd.sz24, Tryd.ag24, Tryd.fd34f1]
    refine Does.ret hκ.hP hκ.hgl (rright_ok m.2) ⟨trivial, by simp [SV.bnd, SV.bndL], by first | (simp [SV.bnd, SV.bndL]; done) | assumption⟩ ?_
    cases h2 : decide (m.2 < 256)
    · refine hκ.run 300 ?_
      simp (disch := omega) only [exec_succ, runR_next, runR_guard_ft, runR_stop, stepS, runOp, guardS, toSR, sop, rOf, sPick, sLoad, sBin, sFieldAddr, ev, Env.get, setO, OutOK_stop, undefS, undef, List.getElem?_toArray, List.getElem?_cons_succ, List.getElem?_cons_zero, Option.bind_some, ↓reduceIte, Nat.reduceLT, Nat.reduceEqDiff, Nat.add_zero, Nat.add_one_ne_zero, Bool.not_true, and_self, gl0, Tryd.fd34f0]
      refine hκ.ret _ _ _ _ _ _ trivial rfl ?_
      rw [okM, h1, h2]
      exact .ret trivial
    · refine hκ.run 300 ?_
      simp (disch := omega) only [exec_succ, runR_next, runR_guard_tt, runR_stop, stepS, runOp, guardS, toSR, sop, rOf, sPick, sLoadIn, sLoad, sInt, sBin, sFieldAddr, ev, Env.get, Heap.get, takeN, cut, aggOf, setO, OutOK_stop, undefS, undef, List.getElem?_toArray, List.getElem?_cons_succ, List.getElem?_cons_zero, Option.bind_some, ↓reduceIte, Nat.reduceLT, Nat.reduceEqDiff, Nat.add_zero, Nat.add_one_ne_zero, Bool.not_true, and_self, gl0, Tryd.sz24, Tryd.ag24, Tryd.fd34f0]
      rw [e3]
      refine hκ.ret _ _ _ _ _ _ trivial rfl ?_
      rw [okM, h1, h2]
      exact .ret trivial
theorem rallows_ok (m : Msk) (s : Nat) (hm : okM m = true) (hs : s < 256) : Con Tryd.prog gl0 (fnv 39) [Mk m, S s] 0 [] (Ret (S (alw m s))) := by
  obtain ⟨m1, m2, m3⟩ := okM_iff.1 hm
  refine Con.of Tryd.ok39 (nt := 9) (res := [.tmp 4]) Tryd.mixed Tryd.func39 rfl rfl rfl rfl fun κ xc hκ => hκ.run 300 ?_
  simp (disch := omega) only [exec_succ, runR_next, runR_stop, stepS, runOp, toSR, sop, rOf, rNew, sBox, isArr, sLoadIn, sLoad, sInt, sBin, sFieldAddr, ev, Env.get, Heap.get, takeN, cut, aggOf, cellsS, envOf, OutOK_stop, Bool.false_eq_true, List.size_toArray, List.length_cons, List.length_nil, List.range, List.range.loop, List.getElem?_toArray, List.getElem?_cons_succ, List.getElem?_cons_zero, ↓reduceIte, Nat.reduceAdd, Nat.reduceLT, Nat.reduceEqDiff, Nat.zero_add, Nat.add_zero, Nat.add_one_ne_zero, reduceCtorEq, gl0, Tryd.sz24, Tryd.ag24, Tryd.fd34f0, and32]
  refine hκ.ret _ _ _ _ _ _ trivial rfl ?_
  rw [alw, if_pos ⟨hm, hs⟩]
  exact .ret trivial
theorem rlikes_ok (m : Msk) (s : Nat) (hm : okM m = true) (hs : s < 256) : Con Tryd.prog gl0 (fnv 44) [Mk m, S s] 0 [] (Ret (S (lik m s))) := by
  obtain ⟨m1, m2, m3⟩ := okM_iff.1 hm
  have ha : alw m s = m.1 &&& s := by rw [alw, if_pos ⟨hm, hs⟩]
  have hlt : m.1 &&& s < 256 := Nat.lt_of_le_of_lt Nat.and_le_right hs
  refine Con.of Tryd.ok44 (nt := 24) (res := [.tmp 4]) Tryd.mixed Tryd.func44 rfl rfl rfl rfl fun κ xc hκ => hκ.run 300 ?_
  simp (disch := omega) only [exec_succ, runR_next, stepS, runOp, condS, toSR, sop, rOf, rNew, sBox, isArr, sLoadIn, sLoad, sInt, sBin, sFieldAddr, ev, Env.get, Heap.get, takeN, cut, aggOf, cellsS, envOf, Bool.false_eq_true, List.size_toArray, List.length_cons, List.length_nil, List.range, List.range.loop, List.getElem?_toArray, List.getElem?_cons_succ, List.getElem?_cons_zero, ↓reduceIte, Nat.reduceAdd, Nat.reduceLT, Nat.reduceEqDiff, Nat.zero_add, Nat.add_zero, Nat.add_one_ne_zero, reduceCtorEq, gl0, Tryd.sz24, Tryd.ag24, Tryd.fd34f0, Tryd.fd34f1, and32]
  refine OutOK_fork (fun h => ?_) (fun h => ?_) <;> try simp only [Bool.not_true, Bool.not_false, decide_eq_true_eq, decide_eq_false_iff_not, Bool.not_eq_true', Bool.not_eq_false', Bool.and_eq_true, Bool.or_eq_false_iff, Bool.or_eq_true, Bool.and_eq_false_iff] at h
  · simp (disch := omega) only [exec_succ, runR_next, runR_stop, stepS, runOp, toSR, sop, rOf, sLoadIn, sLoad, sInt, sBin, sFieldAddr, ev, Env.get, Heap.get, takeN, cut, aggOf, OutOK_stop, List.size_toArray, List.length_cons, List.length_nil, List.range, List.range.loop, List.getElem?_toArray, List.getElem?_cons_succ, List.getElem?_cons_zero, ↓reduceIte, Nat.reduceAdd, Nat.reduceLT, Nat.reduceEqDiff, Nat.zero_add, Nat.add_zero, Nat.add_one_ne_zero, reduceCtorEq, Tryd.sz24, Tryd.ag24, Tryd.fd34f0, Tryd.fd34f1, and32]
    refine hκ.ret _ _ _ _ _ _ trivial rfl ?_
    rw [lik, ha, if_pos (by omega)]
    exact .ret trivial
  · simp (disch := omega) only [exec_succ, runR_next, runR_stop, stepS, runOp, toSR, sop, rOf, sLoadIn, sLoad, sInt, sBin, sFieldAddr, ev, Env.get, Heap.get, takeN, cut, aggOf, OutOK_stop, List.size_toArray, List.length_cons, List.length_nil, List.range, List.range.loop, List.getElem?_toArray, List.getElem?_cons_succ, List.getElem?_cons_zero, ↓reduceIte, Nat.reduceAdd, Nat.reduceLT, Nat.reduceEqDiff, Nat.zero_add, Nat.add_zero, Nat.add_one_ne_zero, reduceCtorEq, Tryd.sz24, Tryd.ag24, Tryd.fd34f0, and32]
    refine hκ.ret _ _ _ _ _ _ trivial rfl ?_
    rw [lik, ha, if_neg (by omega)]
    exact .ret trivial
end Go.Proofs.YtgnkhcnpjediaaaDoor
