/- Traces: time passes. No condition. -/
import Derived.Test.YtcpanpkhdcifoaaTd
namespace Go.Proofs.Ytcpanpkhdcifoaa
open Go Go.Sy
set_option maxRecDepth 100000
set_option linter.unusedSimpArgs false
set_option linter.unusedVariables false

abbrev noT : SV := .agg [.v (.slice none 0 0), I 0]
/-- The error of time that passes. -/
def passE (fs : List Fr) (en to : Int) : Int := if rightT fs en = true then (if timeB to = true ∧ en ≤ to then 0 else 2) else 330
theorem pass_ok (fs : List Fr) (en to : Int) (hf : ∀ f ∈ fs, inFr f) (he : i64 en) (ht : i64 to) (hn : fs.length < 2 ^ 46) : Con Try.prog gl0 (fnv 13) [Tr fs en, I to] 0 [] (Ret (if passE fs en to = 0 then .tup [Tr fs to, I 0] else .tup [noT, I (passE fs en to)])) := by
  have c1 := check_ok fs en hf he hn
  refine Con.of Try.ok13 (nt := 25) (res := [.cell 4 24, .tmp 5]) Try.mixed Try.func13 rfl rfl rfl rfl fun κ xc hκ => hκ.run 300 ?_
  simp (disch := omega) only [exec_succ, runR_next, runR_call, stepS, runOp, toSR, sop, rOf, rNew, sAlloc, sAlloc0, sBox, isArr, sLoadIn, sLoad, ev, evs, svs, Env.get, Heap.get, takeN, cut, aggOf, cellsS, envOf, OutOK_call, Bool.false_eq_true, List.size_toArray, List.length_cons, List.length_nil, List.range, List.range.loop, List.getElem?_toArray, List.getElem?_cons_succ, List.getElem?_cons_zero, List.map_cons, List.map_nil, ↓reduceIte, Nat.reduceAdd, Nat.reduceLT, Nat.reduceEqDiff, Nat.zero_add, Nat.add_one_ne_zero, gl0, Try.sz24, Try.ag24, Try.ze24, Try.ar24]
  by_cases h1 : rightT fs en = true
  case neg =>
    rw [if_neg h1] at c1
    have e1 : passE fs en to = 330 := by rw [passE, if_neg h1]
    refine Does.ret hκ.hP hκ.hgl (c1) ⟨trivial, by simp [SV.bnd, SV.bndL], by first | (simp [SV.bnd, SV.bndL]; done) | assumption⟩ ?_
    refine hκ.run 300 ?_
    simp (disch := omega) only [exec_succ, runR_next, runR_need, runR_fork_true, runR_stop, stepS, runOp, condS, toSR, sop, rOf, sStoreIn, sStore, sInt, sBin, fillS, evps, sBuild, ev, svs, Env.get, Heap.get, Heap.set, over, paste, cellsS, one, ones, setO, Value.oneCell', OutOK_need, OutOK_stop, undefS, undef, List.size_toArray, List.length_cons, List.length_nil, List.range, List.range.loop, List.getElem?_toArray, List.getElem?_cons_succ, List.getElem?_cons_zero, List.map_cons, List.map_nil, ↓reduceIte, Nat.reduceAdd, Nat.reduceLT, Nat.reduceEqDiff, Nat.zero_add, Int.reduceEq, Bool.not_false, decide_false, true_and, and_self, forall_const, gl0, Try.sz24, Try.ze24, Try.pl24]
    refine hκ.ret _ _ _ _ _ _ trivial rfl ?_
    rw [e1, if_neg (by decide)]
    exact .ret (by simp [SV.bnd, SV.bndL])
  rw [if_pos h1] at c1
  refine Does.ret hκ.hP hκ.hgl (c1) ⟨trivial, by simp [SV.bnd, SV.bndL], by first | (simp [SV.bnd, SV.bndL]; done) | assumption⟩ ?_
  refine hκ.run 300 ?_
  simp (disch := omega) only [exec_succ, runR_next, runR_fork_false, runR_call, stepS, runOp, condS, toSR, sop, rOf, sInt, sBin, ev, evs, Env.get, setO, OutOK_call, List.size_toArray, List.length_cons, List.length_nil, List.range, List.range.loop, List.getElem?_toArray, List.getElem?_cons_succ, List.getElem?_cons_zero, ↓reduceIte, Nat.reduceAdd, Nat.reduceLT, Nat.reduceEqDiff, Nat.zero_add, Bool.not_true, decide_true, reduceCtorEq, gl0]
  refine Does.ret hκ.hP hκ.hgl (ptime_ok to) ⟨trivial, by simp [SV.bnd, SV.bndL], by first | (simp [SV.bnd, SV.bndL]; done) | assumption⟩ ?_
  cases h2 : timeB to
  · have e1 : passE fs en to = 2 := by rw [passE, if_pos h1, if_neg (by rw [h2]; simp)]
    refine hκ.run 300 ?_
    simp (disch := omega) only [exec_succ, runR_next, runR_need, runR_fork_true, runR_guard_tf, runR_stop, stepS, runOp, guardS, condS, toSR, sop, rOf, sPick, sLoad, sStoreIn, sStore, sBin, sUn, sFieldAddr, fillS, evps, sBuild, ev, svs, Env.get, Heap.get, Heap.set, over, paste, cellsS, one, ones, setO, Value.oneCell', OutOK_need, OutOK_stop, undefS, undef, List.size_toArray, List.length_cons, List.length_nil, List.range, List.range.loop, List.getElem?_toArray, List.getElem?_cons_succ, List.getElem?_cons_zero, List.map_cons, List.map_nil, Option.bind_some, ↓reduceIte, Nat.reduceAdd, Nat.reduceLT, Nat.reduceEqDiff, Nat.zero_add, Nat.add_one_ne_zero, Bool.not_false, true_and, and_self, forall_const, reduceCtorEq, gl0, Try.sz24, Try.ze24, Try.pl24, Try.fd24f1]
    refine hκ.ret _ _ _ _ _ _ trivial rfl ?_
    rw [e1, if_neg (by decide)]
    exact .ret (by simp [SV.bnd, SV.bndL])
  by_cases h3 : to < en
  · have e1 : passE fs en to = 2 := by rw [passE, if_pos h1, if_neg (by omega)]
    have e3 : (to < en) = True := by simp only [h3]
    refine hκ.run 300 ?_
    simp (disch := omega) only [exec_succ, runR_next, runR_need, runR_fork_true, runR_guard_ff, runR_stop, stepS, runOp, guardS, condS, toSR, sop, rOf, sPick, sLoadIn, sLoad, sStoreIn, sStore, sInt, sBin, sUn, sFieldAddr, fillS, evps, sBuild, ev, svs, Env.get, Heap.get, Heap.set, takeN, cut, over, paste, aggOf, cellsS, one, ones, setO, Value.oneCell', OutOK_need, OutOK_stop, undefS, undef, List.size_toArray, List.length_cons, List.length_nil, List.range, List.range.loop, List.getElem?_toArray, List.getElem?_cons_succ, List.getElem?_cons_zero, List.map_cons, List.map_nil, Option.bind_some, ↓reduceIte, Nat.reduceAdd, Nat.reduceLT, Nat.reduceEqDiff, Nat.zero_add, Nat.add_one_ne_zero, Bool.not_true, Bool.not_false, decide_true, true_and, and_self, forall_const, reduceCtorEq, gl0, Try.sz2, Try.ag2, Try.sz24, Try.ze24, Try.pl24, Try.fd24f1, e3]
    refine hκ.ret _ _ _ _ _ _ trivial rfl ?_
    rw [e1, if_neg (by decide)]
    exact .ret (by simp [SV.bnd, SV.bndL])
  · have e1 : passE fs en to = 0 := by rw [passE, if_pos h1, if_pos ⟨h2, by omega⟩]
    have e3 : (to < en) = False := by simp only [h3]
    refine hκ.run 300 ?_
    simp (disch := omega) only [exec_succ, runR_next, runR_need, runR_fork_false, runR_guard_ff, runR_stop, stepS, runOp, guardS, condS, toSR, sop, rOf, sPick, sLoadIn, sLoad, sStoreIn, sStore, sInt, sBin, sUn, sFieldAddr, ev, svs, Env.get, Heap.get, Heap.set, takeN, cut, over, paste, aggOf, cellsS, one, ones, setO, Value.cells, Value.oneCell', OutOK_need, OutOK_stop, undefS, undef, List.size_toArray, List.length_cons, List.length_nil, List.range, List.range.loop, List.getElem?_toArray, List.getElem?_cons_succ, List.getElem?_cons_zero, List.map_cons, List.map_nil, Option.bind_some, List.toList_toArray, ↓reduceIte, Nat.reduceAdd, Nat.reduceLT, Nat.reduceEqDiff, Nat.zero_add, Nat.add_one_ne_zero, Bool.not_true, Bool.not_false, decide_false, true_and, and_self, forall_const, reduceCtorEq, gl0, Try.sz2, Try.ag2, Try.sz24, Try.ag24, Try.fd24f1, e3]
    refine hκ.ret _ _ _ _ _ _ trivial rfl ?_
    rw [e1, if_pos rfl]
    exact .ret (by simp [SV.bnd, SV.bndL])
end Go.Proofs.Ytcpanpkhdcifoaa
