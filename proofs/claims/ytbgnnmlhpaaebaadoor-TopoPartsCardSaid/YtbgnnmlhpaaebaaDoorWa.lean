/- Does the layer do anything? No condition. -/
import Derived.Test.YtbgnnmlhpaaebaaDoorTj
import Derived.Test.YtbgnnmlhpaaebaaDoorTe
namespace Go.Proofs.YtbgnnmlhpaaebaaDoor
open Go Go.Sy
set_option maxRecDepth 100000
set_option linter.unusedSimpArgs false
set_option linter.unusedVariables false

def wT : List Sea := [(0, 0), (0, 0), (1, 0), (1, 0)]
theorem wT_in : ∀ s ∈ wT, inT s := by decide
theorem wakes_ok : Con Tryd.prog gl0 (fnv 10) [] 0 [] (Ret (Bo true)) := by
  have c1 : Con Tryd.prog gl0 (fnv 22) [I 2, I 1, I 2] 0 [] (Ret (.tup [To wT, I 0])) := by
    have h := regular_ok 2 1 2
    rwa [show regL 2 1 2 = wT by decide, show regE 2 1 2 = 0 by decide] at h
  have c2 : Con Tryd.prog gl0 (fnv 13) [To wT, I 0, I 2] 0 [] (Ret (.tup [I 3, I 0])) := by
    have h := Dist_ok wT 0 2 wT_in (by decide)
    rwa [show distE wT 0 2 = 0 by decide, if_pos rfl, show distN wT (0 : Int).toNat (2 : Int).toNat = 3 by decide] at h
  have c3 : Con Tryd.prog gl0 (fnv 16) [To wT, I 2, S 15] 0 [] (Ret (.tup [Is [2, 3, 0, 1], I 0])) := by
    have h := near_ok wT 2 15 wT_in (by decide) (by decide)
    rwa [show nearE wT 2 15 = 0 by decide, if_pos rfl, show nearL wT (2 : Int).toNat 15 = [2, 3, 0, 1] by decide +kernel] at h
  have c4 : Con Tryd.prog gl0 (fnv 25) [To wT, I 1] 0 [] (Ret (S 12)) := by
    have h := socket_ok wT 1 wT_in (by decide)
    rwa [show qset (fun s => decide (s.1 = 1)) wT = 12 by decide +kernel] at h
  generalize wT = l at c1 c2 c3 c4
  refine Con.of Tryd.ok10 (nt := 51) (res := [.tmp 0]) Tryd.mixed Tryd.func10 rfl rfl rfl rfl fun κ xc hκ => hκ.run 300 ?_
  simp (disch := omega) only [exec_succ, runR_next, runR_call, stepS, runOp, toSR, sop, rOf, ev, evs, envOf, OutOK_call, List.size_toArray, List.length_cons, List.length_nil, List.range, List.range.loop, List.getElem?_toArray, List.getElem?_cons_zero, ↓reduceIte, Nat.reduceAdd, Nat.reduceLT, Nat.zero_add, gl0]
  refine Does.ret hκ.hP hκ.hgl (c1) ⟨trivial, by simp [SV.bnd, SV.bndL], by first | (simp [SV.bnd, SV.bndL]; done) | assumption⟩ ?_
  refine hκ.run 300 ?_
  simp (disch := omega) only [exec_succ, runR_next, runR_need, runR_call, stepS, runOp, toSR, sop, rOf, rNew, sAlloc, sAlloc0, sLoadIn, sLoad, sStoreIn, sStore, sExtract, ev, evs, svs, Env.get, Heap.get, Heap.set, takeN, cut, over, paste, aggOf, cellsS, one, ones, setO, OutOK_need, OutOK_call, undefS, undef, List.size_toArray, List.length_cons, List.length_nil, List.range, List.range.loop, List.getElem?_toArray, List.getElem?_cons_succ, List.getElem?_cons_zero, List.map_cons, List.map_nil, ↓reduceIte, Nat.reduceAdd, Nat.reduceLT, Nat.reduceEqDiff, Nat.zero_add, true_and, and_self, forall_const, gl0, Tryd.sz24, Tryd.ag24, Tryd.ze24, Tryd.ar24]
  refine Does.ret hκ.hP hκ.hgl (c2) ⟨trivial, by simp [SV.bnd, SV.bndL], by first | (simp [SV.bnd, SV.bndL]; done) | assumption⟩ ?_
  refine hκ.run 300 ?_
  simp (disch := omega) only [exec_succ, runR_next, runR_call, stepS, runOp, toSR, sop, rOf, sLoadIn, sLoad, sExtract, ev, evs, Env.get, Heap.get, takeN, cut, aggOf, setO, OutOK_call, List.size_toArray, List.length_cons, List.length_nil, List.range, List.range.loop, List.getElem?_toArray, List.getElem?_cons_succ, List.getElem?_cons_zero, ↓reduceIte, Nat.reduceAdd, Nat.reduceLT, Nat.reduceEqDiff, Nat.zero_add, gl0, Tryd.sz24, Tryd.ag24]
  refine Does.ret hκ.hP hκ.hgl (c3) ⟨trivial, by simp [SV.bnd, SV.bndL], by first | (simp [SV.bnd, SV.bndL]; done) | assumption⟩ ?_
  refine hκ.run 300 ?_
  simp (disch := omega) only [sBuiltin, exec_succ, runR_next, runR_need, runR_guard_tt, runR_call, stepS, runOp, guardS, toSR, sop, rOf, sPick, sLoadIn, sLoad, sInt, sBin, sIndexAddr, sExtract, sLen, elemT, obind, ev, evs, Env.get, Heap.get, takeN, cut, aggOf, setO, OutOK_need, OutOK_call, undefS, undef, Int.cast_ofNat_Int, List.size_toArray, List.length_cons, List.length_nil, List.range, List.range.loop, List.getElem?_toArray, List.getElem?_cons_succ, List.getElem?_cons_zero, List.getD_cons_zero, List.getD_cons_succ, List.map_cons, List.map_nil, Option.bind_some, ↓reduceIte, Nat.reduceAdd, Nat.reduceLT, Nat.reduceEqDiff, Nat.zero_add, Int.reduceToNat, Int.reduceLT, Int.reduceLE, Bool.not_true, decide_true, true_and, and_self, forall_const, eI, gl0, Tryd.sz3, Tryd.ag3, Tryd.sz24, Tryd.ag24, Tryd.underlying38]
  (repeat (refine ⟨by first | omega | (refine ⟨?_, ?_⟩ <;> omega) | trivial | (simp; done) | decide +kernel, fun _ => ?_⟩))
  refine Does.ret hκ.hP hκ.hgl (c4) ⟨trivial, by simp [SV.bnd, SV.bndL], by first | (simp [SV.bnd, SV.bndL]; done) | assumption⟩ ?_
  refine hκ.run 300 ?_
  simp (disch := omega) only [exec_succ, runR_next, runR_guard_tt, runR_stop, stepS, runOp, guardS, toSR, sop, rOf, sPick, sInt, sBin, ev, Env.get, setO, OutOK_stop, undefS, undef, Int.cast_ofNat_Int, List.getElem?_toArray, List.getElem?_cons_succ, List.getElem?_cons_zero, Option.bind_some, ↓reduceIte, Nat.reduceLT, Nat.reduceEqDiff, Bool.not_true, decide_true, and_self, gl0]
  refine hκ.ret _ _ _ _ _ _ trivial rfl ?_
  exact .ret trivial
end Go.Proofs.YtbgnnmlhpaaebaaDoor
