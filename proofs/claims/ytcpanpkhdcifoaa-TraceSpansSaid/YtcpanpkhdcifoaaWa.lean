/- Traces: the layer does something. No condition. -/
import Derived.Test.YtcpanpkhdcifoaaTt
namespace Go.Proofs.Ytcpanpkhdcifoaa
open Go Go.Sy
set_option maxRecDepth 100000
set_option linter.unusedSimpArgs false
set_option linter.unusedVariables false

theorem con_args {P : Program} {gl : Gl} {f : SV} {args args' : List SV} {m : Nat} {H : Heap} {Q : SV → Heap → Nat → Prop} (hr : ∀ ν vs, RelL ν args vs → RelL ν args' vs) (h : Con P gl f args' m H Q) : Con P gl f args m H Q :=
  fun ν w fv vs h1 h2 h3 h4 => h ν w fv vs h1 h2 h3 (hr ν vs h4)
theorem wakes_ok : Con Try.prog gl0 (fnv 9) [] 0 [] (Ret (Bo true)) := by
  have c1 : Con Try.prog gl0 (fnv 12) [noT, I 0, Ps [(1, 0)]] 0 [] (Ret (.tup [Tr [(0, [(1, 0)])] 0, I 0])) :=
    con_args (fun _ => RelL.mapHead (Rel.aggMap nil1)) (add_ok [] 0 0 [(1, 0)] (by simp) (by decide) (by decide) (by decide) (by decide) (by decide))
  have c2 : Con Try.prog gl0 (fnv 12) [Tr [(0, [(1, 0)])] 0, I 5, Ps [(2, 0), (1, 1)]] 0 [] (Ret (.tup [Tr [(0, [(1, 0)]), (5, [(2, 0), (1, 1)])] 5, I 0])) :=
    add_ok [(0, [(1, 0)])] 0 5 [(2, 0), (1, 1)] (by decide) (by decide) (by decide) (by decide) (by decide) (by decide)
  have c3 : Con Try.prog gl0 (fnv 13) [Tr [(0, [(1, 0)]), (5, [(2, 0), (1, 1)])] 5, I 9] 0 [] (Ret (.tup [Tr [(0, [(1, 0)]), (5, [(2, 0), (1, 1)])] 9, I 0])) :=
    pass_ok [(0, [(1, 0)]), (5, [(2, 0), (1, 1)])] 5 9 (by decide) (by decide) (by decide) (by decide)
  have c4 : Con Try.prog gl0 (fnv 19) [Tr [(0, [(1, 0)]), (5, [(2, 0), (1, 1)])] 9, I 1, I 0, I 9] 0 [] (Ret (.tup [I 9, I 0])) :=
    ran_ok [(0, [(1, 0)]), (5, [(2, 0), (1, 1)])] 9 1 0 9 (by decide) (by decide) (by decide) (by decide) (by decide) (by decide)
  have c5 : Con Try.prog gl0 (fnv 21) [Tr [(0, [(1, 0)]), (5, [(2, 0), (1, 1)])] 9, I 1] 0 [] (Ret (I 1)) :=
    moves_ok [(0, [(1, 0)]), (5, [(2, 0), (1, 1)])] 9 1 (by decide) (by decide) (by decide) (by decide) (by decide)
  refine Con.of Try.ok9 (nt := 61) (res := [.tmp 0]) Try.mixed Try.func9 rfl rfl rfl rfl fun κ xc hκ => hκ.run 300 ?_
  simp (disch := omega) only [exec_succ, runR_next, runR_need, runR_call, stepS, runOp, toSR, sop, rOf, rNew, isArr, sliceT, obind, fillS, evps, sBuild, repeatL, sBuildSlice, chunk, ev, evs, svs, Env.get, over, paste, cellsS, one, ones, idFree, idFrees, envOf, Value.cells, Value.oneCell', OutOK_need, OutOK_call, Bool.and_true, List.take_succ_cons, List.take_nil, List.size_toArray, List.length_cons, List.length_nil, List.range, List.range.loop, List.getElem?_toArray, List.getElem?_cons_succ, List.getElem?_cons_zero, List.map_cons, List.map_nil, List.append_nil, List.toList_toArray, ↓reduceIte, Nat.reduceAdd, Nat.reduceLT, Nat.reduceLeDiff, Nat.reduceEqDiff, Nat.zero_add, Nat.zero_mul, Nat.one_mul, true_and, and_self, forall_const, gl0, Try.ze24, Try.pl24, Try.underlying25, Try.sz51, Try.ze51, Try.pl51]
  refine Does.frz [0] ⟨trivial, rfl⟩ (by first | (simp [lendPL, lendP, lendSlP, Heap.get]; done) | (simp only [lendPL, lendP, lendSlP, Heap.get, List.mem_singleton, List.mem_cons, List.not_mem_nil, or_false, or_true, true_or, Nat.reduceEqDiff, Nat.one_ne_zero, Nat.zero_ne_one, ↓reduceIte, and_true, true_and, List.length_map, List.length_append, List.length_cons, List.length_nil, List.length_replicate]; omega)) ?_
  simp only [lendL, lendS, lendSl, Heap.get, without, List.mem_singleton, List.mem_cons, List.not_mem_nil, or_false, or_true, true_or, List.drop_zero, List.take_length, List.take_succ_cons, List.take_zero, Nat.reduceAdd, Nat.reduceEqDiff, Nat.one_ne_zero, Nat.zero_ne_one, ↓reduceIte]
  refine Does.ret hκ.hP hκ.hgl (c1) ⟨trivial, by simp [SV.bnd, SV.bndL], by first | (simp [SV.bnd, SV.bndL]; done) | assumption⟩ ?_
  refine hκ.run 300 ?_
  simp (disch := omega) only [exec_succ, runR_next, runR_need, runR_call, stepS, runOp, toSR, sop, rOf, rNew, sAlloc, sAlloc0, isArr, sLoadIn, sLoad, sStoreIn, sStore, sExtract, sliceT, obind, fillS, evps, sBuild, repeatL, sBuildSlice, chunk, ev, evs, svs, Env.get, Heap.get, Heap.set, takeN, cut, over, paste, aggOf, cellsS, one, ones, idFree, idFrees, setO, Value.cells, Value.oneCell', OutOK_need, OutOK_call, undefS, undef, Bool.and_true, List.drop_zero, List.drop_succ_cons, List.take_zero, List.take_succ_cons, List.take_nil, List.size_toArray, List.length_cons, List.length_nil, List.range, List.range.loop, List.getElem?_toArray, List.getElem?_cons_succ, List.getElem?_cons_zero, List.map_cons, List.map_nil, List.append_nil, List.cons_append, List.nil_append, List.toList_toArray, ↓reduceIte, Nat.reduceAdd, Nat.reduceMul, Nat.reduceLT, Nat.reduceLeDiff, Nat.reduceEqDiff, Nat.zero_add, Nat.zero_mul, Nat.one_mul, true_and, and_self, forall_const, gl0, Try.sz24, Try.ag24, Try.ze24, Try.ar24, Try.underlying25, Try.sz51, Try.ze51, Try.pl51]
  refine Does.frz [2] ⟨trivial, rfl⟩ (by first | (simp [lendPL, lendP, lendSlP, Heap.get]; done) | (simp only [lendPL, lendP, lendSlP, Heap.get, List.mem_singleton, List.mem_cons, List.not_mem_nil, or_false, or_true, true_or, Nat.reduceEqDiff, Nat.one_ne_zero, Nat.zero_ne_one, ↓reduceIte, and_true, true_and, List.length_map, List.length_append, List.length_cons, List.length_nil, List.length_replicate]; omega)) ?_
  simp only [lendL, lendS, lendSl, Heap.get, without, List.mem_singleton, List.mem_cons, List.not_mem_nil, or_false, or_true, true_or, List.drop_zero, List.take_length, List.take_succ_cons, List.take_zero, Nat.reduceAdd, Nat.reduceEqDiff, Nat.one_ne_zero, Nat.zero_ne_one, ↓reduceIte]
  refine Does.ret hκ.hP hκ.hgl (c2) ⟨trivial, by simp [SV.bnd, SV.bndL], by first | (simp [SV.bnd, SV.bndL]; done) | assumption⟩ ?_
  refine hκ.run 300 ?_
  simp (disch := omega) only [exec_succ, runR_next, runR_need, runR_call, stepS, runOp, toSR, sop, rOf, sLoadIn, sLoad, sStoreIn, sStore, sExtract, ev, evs, Env.get, Heap.get, Heap.set, takeN, cut, over, paste, aggOf, cellsS, one, ones, setO, Value.oneCell', OutOK_need, OutOK_call, undefS, undef, List.size_toArray, List.length_cons, List.length_nil, List.range, List.range.loop, List.getElem?_toArray, List.getElem?_cons_succ, List.getElem?_cons_zero, ↓reduceIte, Nat.reduceAdd, Nat.reduceLT, Nat.reduceEqDiff, Nat.zero_add, true_and, and_self, forall_const, gl0, Try.sz24, Try.ag24]
  refine Does.ret hκ.hP hκ.hgl (c3) ⟨trivial, by simp [SV.bnd, SV.bndL], by first | (simp [SV.bnd, SV.bndL]; done) | assumption⟩ ?_
  refine hκ.run 300 ?_
  simp (disch := omega) only [exec_succ, runR_next, runR_need, runR_call, stepS, runOp, toSR, sop, rOf, sLoadIn, sLoad, sStoreIn, sStore, sExtract, ev, evs, Env.get, Heap.get, Heap.set, takeN, cut, over, paste, aggOf, cellsS, one, ones, setO, Value.oneCell', OutOK_need, OutOK_call, undefS, undef, List.size_toArray, List.length_cons, List.length_nil, List.range, List.range.loop, List.getElem?_toArray, List.getElem?_cons_succ, List.getElem?_cons_zero, ↓reduceIte, Nat.reduceAdd, Nat.reduceLT, Nat.reduceEqDiff, Nat.zero_add, true_and, and_self, forall_const, gl0, Try.sz24, Try.ag24]
  refine Does.ret hκ.hP hκ.hgl (c4) ⟨trivial, by simp [SV.bnd, SV.bndL], by first | (simp [SV.bnd, SV.bndL]; done) | assumption⟩ ?_
  refine hκ.run 300 ?_
  simp (disch := omega) only [sBuiltin, exec_succ, runR_next, runR_guard_tt, runR_call, stepS, runOp, guardS, toSR, sop, rOf, sPick, sLoadIn, sLoad, sInt, sBin, sFieldAddr, sExtract, sLen, ev, evs, Env.get, Heap.get, takeN, cut, aggOf, setO, OutOK_call, undefS, undef, Int.cast_ofNat_Int, List.size_toArray, List.length_cons, List.length_nil, List.range, List.range.loop, List.getElem?_toArray, List.getElem?_cons_succ, List.getElem?_cons_zero, List.map_cons, List.map_nil, Option.bind_some, ↓reduceIte, Nat.reduceAdd, Nat.reduceLT, Nat.reduceEqDiff, Nat.zero_add, Nat.add_zero, Nat.add_one_ne_zero, Bool.not_true, decide_true, and_self, gl0, Try.underlying22, Try.sz22, Try.ag22, Try.sz24, Try.ag24, Try.fd24f0, eF]
  refine Does.ret hκ.hP hκ.hgl (c5) ⟨trivial, by simp [SV.bnd, SV.bndL], by first | (simp [SV.bnd, SV.bndL]; done) | assumption⟩ ?_
  refine hκ.run 300 ?_
  simp (disch := omega) only [exec_succ, runR_next, runR_guard_tt, runR_stop, stepS, runOp, guardS, toSR, sop, rOf, sPick, sInt, sBin, ev, Env.get, setO, OutOK_stop, undefS, undef, List.getElem?_toArray, List.getElem?_cons_succ, List.getElem?_cons_zero, Option.bind_some, ↓reduceIte, Nat.reduceLT, Nat.reduceEqDiff, Bool.not_true, decide_true, and_self, gl0]
  refine hκ.ret _ _ _ _ _ _ trivial rfl ?_
  exact .ret trivial
end Go.Proofs.Ytcpanpkhdcifoaa
