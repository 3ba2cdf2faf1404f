/- The walk of wakes. No condition. -/
import Derived.Test.YtgnkhcnpjediaaaDoorPx
namespace Go.Proofs.YtgnkhcnpjediaaaDoor
open Go Go.Sy
set_option maxRecDepth 100000
set_option linter.unusedSimpArgs false
set_option linter.unusedVariables false

theorem wakes_ok : Con Tryd.prog gl0 (fnv 8) [] 0 [] (Ret (Bo true)) := by
  refine Con.of Tryd.ok8 (nt := 39) (res := [.tmp 0]) Tryd.mixed Tryd.func8 rfl rfl rfl rfl fun κ xc hκ => hκ.run 300 ?_
  simp (disch := omega) only [exec_succ, runR_next, runR_need, runR_call, stepS, runOp, toSR, sop, rOf, rNew, isArr, sliceT, obind, fillS, evps, sBuild, repeatL, sBuildSlice, chunk, ev, evs, svs, Env.get, over, paste, cellsS, one, ones, idFree, idFrees, envOf, Value.cells, Value.oneCell', OutOK_need, OutOK_call, Bool.and_true, List.drop_zero, List.drop_succ_cons, List.take_zero, List.take_succ_cons, List.take_nil, List.size_toArray, List.length_cons, List.length_nil, List.range, List.range.loop, List.getElem?_toArray, List.getElem?_cons_succ, List.getElem?_cons_zero, List.map_cons, List.map_nil, List.append_nil, List.cons_append, List.nil_append, List.toList_toArray, ↓reduceIte, Nat.reduceAdd, Nat.reduceMul, Nat.reduceLT, Nat.reduceLeDiff, Nat.reduceEqDiff, Nat.zero_add, Nat.zero_mul, Nat.one_mul, Int.reduceNeg, true_and, and_self, forall_const, gl0, Tryd.underlying22, Tryd.ze34, Tryd.pl34, Tryd.sz36, Tryd.ze36, Tryd.pl36]
  (repeat (refine ⟨by first | omega | (refine ⟨?_, ?_⟩ <;> omega) | trivial | (simp; done) | decide +kernel, fun _ => ?_⟩))
  refine Does.frz [0] ⟨trivial, rfl⟩ (by first | (simp [lendPL, lendP, lendSlP, Heap.get]; done) | (simp only [lendPL, lendP, lendSlP, Heap.get, List.mem_singleton, List.mem_cons, List.not_mem_nil, or_false, Nat.reduceEqDiff, ↓reduceIte, and_true, true_and, List.length_map, List.length_append, List.length_cons, List.length_nil, List.length_replicate]; omega)) ?_
  simp only [lendL, lendS, lendSl, Heap.get, without, List.mem_singleton, List.mem_cons, List.not_mem_nil, or_false, List.drop_zero, List.take_length, List.take_succ_cons, List.take_zero, Nat.reduceAdd, Nat.reduceEqDiff, Nat.one_ne_zero, Nat.zero_ne_one, ↓reduceIte]
  refine Does.ret hκ.hP hκ.hgl (place_ok [⟨3, 1, 255, 0⟩, ⟨5, -1, 255, 0⟩] 3 ?_ (by decide) (by decide)) ⟨trivial, by simp [SV.bnd, SV.bndL], placeV_closed _ _⟩ ?_
  · intro w hw
    simp at hw
    rcases hw with rfl | rfl <;> decide
  have e1 : askE [⟨3, 1, 255, 0⟩, ⟨5, -1, 255, 0⟩] 3 = 0 := by decide +kernel
  have e2 : (runP 3 [⟨3, 1, 255, 0⟩, ⟨5, -1, 255, 0⟩]).puts = [(3, 1), (5, 0)] := by decide +kernel
  have e3 : (runP 3 [⟨3, 1, 255, 0⟩, ⟨5, -1, 255, 0⟩]).free = 0 := by decide +kernel
  rw [placeV_ok e1, e2, e3]
  refine hκ.run 300 ?_
  simp (disch := omega) only [sBuiltin, exec_succ, runR_next, runR_need, runR_guard_tt, runR_stop, stepS, runOp, guardS, toSR, sop, rOf, sPick, isArr, sLoad, sInt, sEqAgg, aggS, eqCells, sBin, sIndexAddr, sExtract, sLen, elemT, obind, fillS, evps, sBuild, ev, svs, Env.get, takeN, cut, over, paste, aggOf, cellsS, setO, Value.cells, OutOK_need, OutOK_stop, undefS, undef, Int.cast_ofNat_Int, Bool.true_and, Bool.false_eq_true, List.size_toArray, List.length_cons, List.length_nil, List.range, List.range.loop, List.getElem?_toArray, List.getElem?_cons_succ, List.getElem?_cons_zero, List.getD_cons_zero, List.getD_cons_succ, List.map_cons, List.map_nil, Option.bind_some, Option.map_some, List.toList_toArray, ↓reduceIte, Nat.reduceAdd, Nat.reduceLT, Nat.reduceEqDiff, Nat.zero_add, Int.reduceToNat, Int.reduceLT, Int.reduceLE, Int.reduceNeg, Bool.not_true, decide_true, true_and, and_self, forall_const, gl0, Tryd.underlying26, Tryd.sz31, Tryd.ag31, Tryd.ze31, Tryd.pl31, Tryd.eq31, eP]
  refine hκ.ret _ _ _ _ _ _ trivial rfl ?_
  exact .ret trivial
end Go.Proofs.YtgnkhcnpjediaaaDoor
