/- The walk of the law ShareBounds. No condition. -/
import Derived.Test.YtomfpciigaopiaaLz
import Derived.Test.YtomfpciigaopiaaAs
import Derived.Test.YtomfpciigaopiaaAv
namespace Go.Proofs.Ytomfpciigaopiaa
open Go Go.Sy
set_option maxRecDepth 100000
set_option linter.unusedSimpArgs false
set_option linter.unusedVariables false

set_option maxHeartbeats 2000000 in
theorem bounds_law (l : List Pt) (m i gap : Int) (hl : ∀ p ∈ l, inP p) (hn0 : l.length < 2 ^ 46) : Law Try.prog gl0 4 [Ps l, .agg [I m, I i, I gap]] := by
  refine Law.of (nt := 131) (res := [.tmp 4]) Try.mixed Try.func4 rfl rfl rfl rfl fun κ xc hκ => hκ.run 300 ?_
  simp (disch := omega) only [exec_succ, runR_next, runR_call, stepS, runOp, toSR, sop, rOf, rNew, sBox, isArr, ev, evs, Env.get, cellsS, envOf, OutOK_call, Bool.false_eq_true, List.size_toArray, List.length_cons, List.length_nil, List.range, List.range.loop, List.getElem?_toArray, List.getElem?_cons_succ, List.getElem?_cons_zero, ↓reduceIte, Nat.reduceAdd, Nat.reduceLT, Nat.zero_add, reduceCtorEq, gl0]
  refine Does.ret hκ.hP hκ.hgl (wakes_ok) ⟨trivial, by simp [SV.bnd, SV.bndL], by first | (simp [SV.bnd, SV.bndL]; done) | assumption⟩ ?_
  by_cases h100 : (100 : Int) < l.length
  · refine hκ.run 300 ?_
    simp (disch := omega) only [sBuiltin, exec_succ, runR_next, runR_fork_true, runR_fork_false, runR_stop, stepS, runOp, condS, toSR, sop, rOf, sInt, sBin, sUn, sLen, ev, Env.get, setO, OutOK_stop, List.size_toArray, List.length_cons, List.length_nil, List.length_map, List.range, List.range.loop, List.getElem?_toArray, List.getElem?_cons_succ, List.getElem?_cons_zero, ↓reduceIte, Nat.reduceAdd, Nat.reduceLT, Nat.zero_add, Nat.add_one_ne_zero, Bool.not_true, decide_true, gl0, Try.underlying22, h100]
    refine hκ.ret _ _ _ _ _ _ trivial rfl ?_
    rfl
  have hn : l.length < 2 ^ 40 := by omega
  refine hκ.runA 6 300 ?_
  simp (disch := omega) only [sBuiltin, srcS, appArgS, sAppendTo, sAppend, runR_next, runR_need, runR_all, runR_fork_false, stepS, runOp, condS, toSR, sop, rOf, rNew, sInt, sBin, sUn, sLen, sliceT, obind, fillS, evps, repeatL, sBuildSlice, chunk, ev, svs, Env.get, Heap.get, Heap.drop, ones, idFrees, setO, OutOK_need, OutOK_all, OutOK_stop, halt, isAt, atC, execA_succ, List.take_nil, List.size_toArray, List.length_cons, List.length_nil, List.length_map, List.range, List.range.loop, List.getElem?_toArray, List.getElem?_cons_succ, List.getElem?_cons_zero, List.map_nil, List.nil_append, ↓reduceIte, Nat.reduceAdd, Nat.reduceLT, Nat.reduceLeDiff, Nat.reduceEqDiff, Nat.zero_add, Nat.zero_mul, Nat.add_one_ne_zero, Nat.reduceBEq, Bool.not_true, decide_false, beq_self_eq_true, true_and, and_self, forall_const, reduceCtorEq, gl0, Try.underlying22, Try.sz54, Try.ze54, Try.by54, h100]
  (repeat (refine ⟨by first | omega | (refine ⟨?_, ?_⟩ <;> omega) | trivial | (simp; done) | decide +kernel, fun _ => ?_⟩))
  intro cap
  refine Sat.frz [2] 5 _ rfl (by first | (simp [lendPL, lendP, lendSlP, Heap.get]; done) | (simp only [lendPL, lendP, lendSlP, Heap.get, List.mem_singleton, List.mem_cons, List.not_mem_nil, or_false, or_true, true_or, Nat.reduceEqDiff, Nat.one_ne_zero, Nat.zero_ne_one, ↓reduceIte, and_true, true_and, List.length_map, List.length_append, List.length_cons, List.length_nil, List.length_replicate]; omega)) ?_
  simp only [lendL, lendS, lendSl, Heap.get, without, List.mem_singleton, List.mem_cons, List.not_mem_nil, or_false, or_true, true_or, List.drop_zero, List.take_length, List.take_succ_cons, List.take_zero, Nat.reduceAdd, Nat.reduceEqDiff, Nat.one_ne_zero, Nat.zero_ne_one, ↓reduceIte]
  rw [show List.take l.length (List.map eP l) = List.map eP l from List.take_of_length_le (by simp)]
  have c1 := Spread_ok l m gap hl hn
  have c2 := Wait_ok l i gap hl hn
  have c5 := rright_ok l hl hn
  have c6 := rcpus_ok m
  have c7 := rgap_ok gap
  cases hr : rightP l
  · rw [spR, if_pos (by rw [askE_no hr]; decide), askE_no hr, W_zero] at c1
    rw [wtR, if_pos (by rw [askE_no hr]; decide), askE_no hr] at c2
    rw [hr] at c5
    refine hκ.run 300 ?_
    simp (disch := omega) only [exec_succ, runR_next, runR_call, stepS, runOp, toSR, sop, rOf, sLoadIn, sLoad, sFieldAddr, ev, evs, Env.get, Heap.get, takeN, cut, aggOf, OutOK_call, List.size_toArray, List.length_cons, List.length_nil, List.range, List.range.loop, List.getElem?_toArray, List.getElem?_cons_succ, List.getElem?_cons_zero, ↓reduceIte, Nat.reduceAdd, Nat.reduceLT, Nat.reduceEqDiff, Nat.zero_add, Nat.add_zero, Nat.add_one_ne_zero, gl0, Try.sz2, Try.ag2, Try.sz3, Try.ag3, Try.fd42f0, Try.fd42f2]
    refine Does.ret hκ.hP hκ.hgl (c1) ⟨trivial, by simp [SV.bnd, SV.bndL], by first | (simp [SV.bnd, SV.bndL]; done) | assumption⟩ ?_
    refine hκ.run 300 ?_
    simp (disch := omega) only [exec_succ, runR_next, runR_need, runR_call, stepS, runOp, toSR, sop, rOf, rNew, sAlloc, sAlloc0, sLoadIn, sLoad, sStoreIn, sStore, sFieldAddr, sExtract, ev, evs, svs, Env.get, Heap.get, Heap.set, takeN, cut, over, paste, aggOf, cellsS, one, ones, setO, Value.oneCell', OutOK_need, OutOK_call, undefS, undef, List.size_toArray, List.length_cons, List.length_nil, List.range, List.range.loop, List.getElem?_toArray, List.getElem?_cons_succ, List.getElem?_cons_zero, List.map_cons, List.map_nil, ↓reduceIte, Nat.reduceAdd, Nat.reduceLT, Nat.reduceEqDiff, Nat.zero_add, Nat.add_one_ne_zero, true_and, and_self, forall_const, gl0, Try.sz2, Try.ag2, Try.sz3, Try.ag3, Try.fd42f1, Try.fd42f2, Try.sz44, Try.ze44, Try.ar44]
    refine Does.ret hκ.hP hκ.hgl (c2) ⟨trivial, by simp [SV.bnd, SV.bndL], by first | (simp [SV.bnd, SV.bndL]; done) | assumption⟩ ?_
    refine hκ.run 300 ?_
    simp (disch := omega) only [exec_succ, runR_next, runR_call, stepS, runOp, toSR, sop, rOf, sExtract, ev, evs, Env.get, setO, OutOK_call, List.size_toArray, List.length_cons, List.length_nil, List.range, List.range.loop, List.getElem?_toArray, List.getElem?_cons_succ, List.getElem?_cons_zero, ↓reduceIte, Nat.reduceAdd, Nat.reduceLT, Nat.reduceEqDiff, Nat.zero_add, Nat.add_one_ne_zero, gl0]
    refine Does.ret hκ.hP hκ.hgl (c5) ⟨trivial, by simp [SV.bnd, SV.bndL], by first | (simp [SV.bnd, SV.bndL]; done) | assumption⟩ ?_
    refine hκ.run 300 ?_
    simp (disch := omega) only [sBuild0, exec_succ, runR_next, runR_fork_true, runR_guard_tt, runR_stop, stepS, runOp, guardS, condS, toSR, sop, rOf, sPick, sLoadIn, sLoad, sInt, sEqAgg, aggS, eqCells, sBin, sUn, fillS, evps, sBuild, ev, svs, Env.get, Heap.get, takeN, cut, aggOf, setO, OutOK_stop, undefS, undef, Int.cast_ofNat_Int, Bool.true_and, Bool.false_eq_true, List.size_toArray, List.length_cons, List.length_nil, List.range, List.range.loop, List.getElem?_toArray, List.getElem?_cons_succ, List.getElem?_cons_zero, List.map_cons, List.map_nil, Option.bind_some, Option.map_some, ↓reduceIte, Nat.reduceAdd, Nat.reduceLT, Nat.reduceEqDiff, Nat.zero_add, Bool.not_true, Bool.not_false, decide_true, and_self, gl0, Try.sz44, Try.ag44, Try.ze44, Try.pl44, Try.eq44, Try.ar44]
    refine hκ.ret _ _ _ _ _ _ trivial rfl ?_
    rfl
  rw [hr] at c5
  obtain ⟨hn8, hall, -⟩ := (rightP_iff l).1 hr
  generalize hwt : wtR l i gap = wt at *
  refine hκ.run 300 ?_
  simp (disch := omega) only [exec_succ, runR_next, runR_call, stepS, runOp, toSR, sop, rOf, sLoadIn, sLoad, sFieldAddr, ev, evs, Env.get, Heap.get, takeN, cut, aggOf, OutOK_call, List.size_toArray, List.length_cons, List.length_nil, List.range, List.range.loop, List.getElem?_toArray, List.getElem?_cons_succ, List.getElem?_cons_zero, ↓reduceIte, Nat.reduceAdd, Nat.reduceLT, Nat.reduceEqDiff, Nat.zero_add, Nat.add_zero, Nat.add_one_ne_zero, gl0, Try.sz2, Try.ag2, Try.sz3, Try.ag3, Try.fd42f0, Try.fd42f2]
  apply Sat.join (α := Unit) (nx := 4) (dfs := []) (fun _ => True) (fun _ => ([(9, I wt.2), (8, I wt.1), (3, .ptr 0 0 0 0), (0, Ps l)], [(0, .own [I m, I i, I gap] 42)]))
  · intro hj
    have hj := hj () trivial
    cases hm : inI m 1 8
    · rw [spR, hm, Bool.false_and, if_pos (by rw [askE_arg hr]; decide), askE_arg hr, W_zero] at c1
      rw [hm] at c6
      refine Does.ret hκ.hP hκ.hgl (c1) ⟨trivial, by simp [SV.bnd, SV.bndL], by first | (simp [SV.bnd, SV.bndL]; done) | assumption⟩ ?_
      refine hκ.run 300 ?_
      simp (disch := omega) only [exec_succ, runR_next, runR_need, runR_call, stepS, runOp, toSR, sop, rOf, rNew, sAlloc, sAlloc0, sLoadIn, sLoad, sStoreIn, sStore, sFieldAddr, sExtract, ev, evs, svs, Env.get, Heap.get, Heap.set, takeN, cut, over, paste, aggOf, cellsS, one, ones, setO, Value.oneCell', OutOK_need, OutOK_call, undefS, undef, List.size_toArray, List.length_cons, List.length_nil, List.range, List.range.loop, List.getElem?_toArray, List.getElem?_cons_succ, List.getElem?_cons_zero, List.map_cons, List.map_nil, ↓reduceIte, Nat.reduceAdd, Nat.reduceLT, Nat.reduceEqDiff, Nat.zero_add, Nat.add_one_ne_zero, true_and, and_self, forall_const, gl0, Try.sz2, Try.ag2, Try.sz3, Try.ag3, Try.fd42f1, Try.fd42f2, Try.sz44, Try.ze44, Try.ar44]
      refine Does.ret hκ.hP hκ.hgl (c2) ⟨trivial, by simp [SV.bnd, SV.bndL], by first | (simp [SV.bnd, SV.bndL]; done) | assumption⟩ ?_
      refine hκ.run 300 ?_
      simp (disch := omega) only [exec_succ, runR_next, runR_call, stepS, runOp, toSR, sop, rOf, sExtract, ev, evs, Env.get, setO, OutOK_call, List.size_toArray, List.length_cons, List.length_nil, List.range, List.range.loop, List.getElem?_toArray, List.getElem?_cons_succ, List.getElem?_cons_zero, ↓reduceIte, Nat.reduceAdd, Nat.reduceLT, Nat.reduceEqDiff, Nat.zero_add, Nat.add_one_ne_zero, gl0]
      refine Does.ret hκ.hP hκ.hgl (c5) ⟨trivial, by simp [SV.bnd, SV.bndL], by first | (simp [SV.bnd, SV.bndL]; done) | assumption⟩ ?_
      refine hκ.run 300 ?_
      simp (disch := omega) only [exec_succ, runR_next, runR_fork_false, runR_call, stepS, runOp, condS, toSR, sop, rOf, sLoadIn, sLoad, sUn, sFieldAddr, ev, evs, Env.get, Heap.get, takeN, cut, aggOf, setO, OutOK_call, List.size_toArray, List.length_cons, List.length_nil, List.range, List.range.loop, List.getElem?_toArray, List.getElem?_cons_succ, List.getElem?_cons_zero, ↓reduceIte, Nat.reduceAdd, Nat.reduceLT, Nat.reduceEqDiff, Nat.zero_add, Nat.add_zero, Nat.add_one_ne_zero, Bool.not_true, gl0, Try.sz3, Try.ag3, Try.fd42f0]
      refine Does.ret hκ.hP hκ.hgl (c6) ⟨trivial, by simp [SV.bnd, SV.bndL], by first | (simp [SV.bnd, SV.bndL]; done) | assumption⟩ ?_
      refine hκ.runA 18 300 ?_
      simp (disch := omega) only [sBuild0, runR_next, runR_fork_true, runR_fork_false, runR_guard_ff, runR_guard_tf, stepS, runOp, guardS, condS, toSR, sop, rOf, sPick, sLoadIn, sLoad, sInt, sEqAgg, aggS, eqCells, sBin, sUn, sFieldAddr, fillS, evps, sBuild, ev, evs, svs, Env.get, Heap.get, takeN, cut, aggOf, setO, OutOK_stop, undefS, undef, halt, isAt, atC, execA_succ, Int.cast_ofNat_Int, Bool.true_and, List.size_toArray, List.length_cons, List.length_nil, List.range, List.range.loop, List.getElem?_toArray, List.getElem?_cons_succ, List.getElem?_cons_zero, List.map_cons, List.map_nil, Option.bind_some, Option.map_some, ↓reduceIte, Nat.reduceAdd, Nat.reduceLT, Nat.reduceEqDiff, Nat.zero_add, Nat.add_one_ne_zero, Nat.reduceBEq, Bool.not_true, Bool.not_false, decide_true, beq_self_eq_true, and_self, gl0, Try.fd42f2, Try.sz44, Try.ag44, Try.ze44, Try.pl44, Try.eq44, Try.ar44]
      exact hj.less (by repeat' (first | exact EnvSub.nil _ | exact HeapSub.nil _ | refine EnvSub.cons rfl ?_ | refine HeapSub.cons rfl ?_ | (refine EnvSub.cons (by simp [Env.get]; done) ?_) | (refine HeapSub.cons (by simp [Heap.get]; done) ?_))) (by repeat' (first | exact EnvSub.nil _ | exact HeapSub.nil _ | refine EnvSub.cons rfl ?_ | refine HeapSub.cons rfl ?_ | (refine EnvSub.cons (by simp [Env.get]; done) ?_) | (refine HeapSub.cons (by simp [Heap.get]; done) ?_)))
    rw [hm] at c6
    cases hg : inI gap 1 10000000
    · rw [spR, hm, hg, Bool.and_false, if_pos (by rw [askE_arg hr]; decide), askE_arg hr, W_zero] at c1
      rw [hg] at c7
      refine Does.ret hκ.hP hκ.hgl (c1) ⟨trivial, by simp [SV.bnd, SV.bndL], by first | (simp [SV.bnd, SV.bndL]; done) | assumption⟩ ?_
      refine hκ.run 300 ?_
      simp (disch := omega) only [exec_succ, runR_next, runR_need, runR_call, stepS, runOp, toSR, sop, rOf, rNew, sAlloc, sAlloc0, sLoadIn, sLoad, sStoreIn, sStore, sFieldAddr, sExtract, ev, evs, svs, Env.get, Heap.get, Heap.set, takeN, cut, over, paste, aggOf, cellsS, one, ones, setO, Value.oneCell', OutOK_need, OutOK_call, undefS, undef, List.size_toArray, List.length_cons, List.length_nil, List.range, List.range.loop, List.getElem?_toArray, List.getElem?_cons_succ, List.getElem?_cons_zero, List.map_cons, List.map_nil, ↓reduceIte, Nat.reduceAdd, Nat.reduceLT, Nat.reduceEqDiff, Nat.zero_add, Nat.add_one_ne_zero, true_and, and_self, forall_const, gl0, Try.sz2, Try.ag2, Try.sz3, Try.ag3, Try.fd42f1, Try.fd42f2, Try.sz44, Try.ze44, Try.ar44]
      refine Does.ret hκ.hP hκ.hgl (c2) ⟨trivial, by simp [SV.bnd, SV.bndL], by first | (simp [SV.bnd, SV.bndL]; done) | assumption⟩ ?_
      refine hκ.run 300 ?_
      simp (disch := omega) only [exec_succ, runR_next, runR_call, stepS, runOp, toSR, sop, rOf, sExtract, ev, evs, Env.get, setO, OutOK_call, List.size_toArray, List.length_cons, List.length_nil, List.range, List.range.loop, List.getElem?_toArray, List.getElem?_cons_succ, List.getElem?_cons_zero, ↓reduceIte, Nat.reduceAdd, Nat.reduceLT, Nat.reduceEqDiff, Nat.zero_add, Nat.add_one_ne_zero, gl0]
      refine Does.ret hκ.hP hκ.hgl (c5) ⟨trivial, by simp [SV.bnd, SV.bndL], by first | (simp [SV.bnd, SV.bndL]; done) | assumption⟩ ?_
      refine hκ.run 300 ?_
      simp (disch := omega) only [exec_succ, runR_next, runR_fork_false, runR_call, stepS, runOp, condS, toSR, sop, rOf, sLoadIn, sLoad, sUn, sFieldAddr, ev, evs, Env.get, Heap.get, takeN, cut, aggOf, setO, OutOK_call, List.size_toArray, List.length_cons, List.length_nil, List.range, List.range.loop, List.getElem?_toArray, List.getElem?_cons_succ, List.getElem?_cons_zero, ↓reduceIte, Nat.reduceAdd, Nat.reduceLT, Nat.reduceEqDiff, Nat.zero_add, Nat.add_zero, Nat.add_one_ne_zero, Bool.not_true, gl0, Try.sz3, Try.ag3, Try.fd42f0]
      refine Does.ret hκ.hP hκ.hgl (c6) ⟨trivial, by simp [SV.bnd, SV.bndL], by first | (simp [SV.bnd, SV.bndL]; done) | assumption⟩ ?_
      refine hκ.run 300 ?_
      simp (disch := omega) only [exec_succ, runR_next, runR_guard_ff, runR_call, stepS, runOp, guardS, toSR, sop, rOf, sLoadIn, sLoad, sUn, sFieldAddr, ev, evs, Env.get, Heap.get, takeN, cut, aggOf, setO, OutOK_call, undefS, undef, List.getElem?_toArray, List.getElem?_cons_succ, List.getElem?_cons_zero, Option.bind_some, ↓reduceIte, Nat.reduceLT, Nat.reduceEqDiff, Nat.zero_add, Nat.add_one_ne_zero, Bool.not_true, Bool.not_false, and_self, gl0, Try.sz2, Try.ag2, Try.fd42f2]
      refine Does.ret hκ.hP hκ.hgl (c7) ⟨trivial, by simp [SV.bnd, SV.bndL], by first | (simp [SV.bnd, SV.bndL]; done) | assumption⟩ ?_
      refine hκ.runA 18 300 ?_
      simp (disch := omega) only [sBuild0, runR_next, runR_fork_true, runR_fork_false, runR_guard_ff, stepS, runOp, guardS, condS, toSR, sop, rOf, sPick, sLoadIn, sLoad, sInt, sEqAgg, aggS, eqCells, sBin, sUn, fillS, evps, sBuild, ev, svs, Env.get, Heap.get, takeN, cut, aggOf, setO, OutOK_stop, undefS, undef, halt, isAt, atC, execA_succ, Int.cast_ofNat_Int, Bool.true_and, List.size_toArray, List.length_cons, List.length_nil, List.range, List.range.loop, List.getElem?_toArray, List.getElem?_cons_succ, List.getElem?_cons_zero, List.map_cons, List.map_nil, Option.bind_some, Option.map_some, ↓reduceIte, Nat.reduceAdd, Nat.reduceLT, Nat.reduceEqDiff, Nat.zero_add, Nat.reduceBEq, Bool.not_true, Bool.not_false, decide_true, beq_self_eq_true, and_self, gl0, Try.sz44, Try.ag44, Try.ze44, Try.pl44, Try.eq44, Try.ar44]
      exact hj.less (by repeat' (first | exact EnvSub.nil _ | exact HeapSub.nil _ | refine EnvSub.cons rfl ?_ | refine HeapSub.cons rfl ?_ | (refine EnvSub.cons (by simp [Env.get]; done) ?_) | (refine HeapSub.cons (by simp [Heap.get]; done) ?_))) (by repeat' (first | exact EnvSub.nil _ | exact HeapSub.nil _ | refine EnvSub.cons rfl ?_ | refine HeapSub.cons rfl ?_ | (refine EnvSub.cons (by simp [Env.get]; done) ?_) | (refine HeapSub.cons (by simp [Heap.get]; done) ?_)))
    rw [hg] at c7
    have hm2 := (inI_iff _ _ _).1 hm
    have hg2 := (inI_iff _ _ _).1 hg
    have c8 := rfeas_ok l m hr hm2
    cases hf : feasB l m
    · rw [spR, hm, hg, Bool.and_true, if_neg (by rw [askE_yes hr]; decide), hf, if_neg (by decide), W_zero] at c1
      rw [hf] at c8
      refine Does.ret hκ.hP hκ.hgl (c1) ⟨trivial, by simp [SV.bnd, SV.bndL], by first | (simp [SV.bnd, SV.bndL]; done) | assumption⟩ ?_
      refine hκ.run 300 ?_
      simp (disch := omega) only [exec_succ, runR_next, runR_need, runR_call, stepS, runOp, toSR, sop, rOf, rNew, sAlloc, sAlloc0, sLoadIn, sLoad, sStoreIn, sStore, sFieldAddr, sExtract, ev, evs, svs, Env.get, Heap.get, Heap.set, takeN, cut, over, paste, aggOf, cellsS, one, ones, setO, Value.oneCell', OutOK_need, OutOK_call, undefS, undef, List.size_toArray, List.length_cons, List.length_nil, List.range, List.range.loop, List.getElem?_toArray, List.getElem?_cons_succ, List.getElem?_cons_zero, List.map_cons, List.map_nil, ↓reduceIte, Nat.reduceAdd, Nat.reduceLT, Nat.reduceEqDiff, Nat.zero_add, Nat.add_one_ne_zero, true_and, and_self, forall_const, gl0, Try.sz2, Try.ag2, Try.sz3, Try.ag3, Try.fd42f1, Try.fd42f2, Try.sz44, Try.ze44, Try.ar44]
      refine Does.ret hκ.hP hκ.hgl (c2) ⟨trivial, by simp [SV.bnd, SV.bndL], by first | (simp [SV.bnd, SV.bndL]; done) | assumption⟩ ?_
      refine hκ.run 300 ?_
      simp (disch := omega) only [exec_succ, runR_next, runR_call, stepS, runOp, toSR, sop, rOf, sExtract, ev, evs, Env.get, setO, OutOK_call, List.size_toArray, List.length_cons, List.length_nil, List.range, List.range.loop, List.getElem?_toArray, List.getElem?_cons_succ, List.getElem?_cons_zero, ↓reduceIte, Nat.reduceAdd, Nat.reduceLT, Nat.reduceEqDiff, Nat.zero_add, Nat.add_one_ne_zero, gl0]
      refine Does.ret hκ.hP hκ.hgl (c5) ⟨trivial, by simp [SV.bnd, SV.bndL], by first | (simp [SV.bnd, SV.bndL]; done) | assumption⟩ ?_
      refine hκ.run 300 ?_
      simp (disch := omega) only [exec_succ, runR_next, runR_fork_false, runR_call, stepS, runOp, condS, toSR, sop, rOf, sLoadIn, sLoad, sUn, sFieldAddr, ev, evs, Env.get, Heap.get, takeN, cut, aggOf, setO, OutOK_call, List.size_toArray, List.length_cons, List.length_nil, List.range, List.range.loop, List.getElem?_toArray, List.getElem?_cons_succ, List.getElem?_cons_zero, ↓reduceIte, Nat.reduceAdd, Nat.reduceLT, Nat.reduceEqDiff, Nat.zero_add, Nat.add_zero, Nat.add_one_ne_zero, Bool.not_true, gl0, Try.sz3, Try.ag3, Try.fd42f0]
      refine Does.ret hκ.hP hκ.hgl (c6) ⟨trivial, by simp [SV.bnd, SV.bndL], by first | (simp [SV.bnd, SV.bndL]; done) | assumption⟩ ?_
      refine hκ.run 300 ?_
      simp (disch := omega) only [exec_succ, runR_next, runR_guard_ff, runR_call, stepS, runOp, guardS, toSR, sop, rOf, sLoadIn, sLoad, sUn, sFieldAddr, ev, evs, Env.get, Heap.get, takeN, cut, aggOf, setO, OutOK_call, undefS, undef, List.getElem?_toArray, List.getElem?_cons_succ, List.getElem?_cons_zero, Option.bind_some, ↓reduceIte, Nat.reduceLT, Nat.reduceEqDiff, Nat.zero_add, Nat.add_one_ne_zero, Bool.not_true, Bool.not_false, and_self, gl0, Try.sz2, Try.ag2, Try.fd42f2]
      refine Does.ret hκ.hP hκ.hgl (c7) ⟨trivial, by simp [SV.bnd, SV.bndL], by first | (simp [SV.bnd, SV.bndL]; done) | assumption⟩ ?_
      refine hκ.run 300 ?_
      simp (disch := omega) only [exec_succ, runR_next, runR_fork_false, runR_guard_ff, runR_call, stepS, runOp, guardS, condS, toSR, sop, rOf, sPick, sLoadIn, sLoad, sUn, sFieldAddr, ev, evs, Env.get, Heap.get, takeN, cut, aggOf, setO, OutOK_call, undefS, undef, List.size_toArray, List.length_cons, List.length_nil, List.range, List.range.loop, List.getElem?_toArray, List.getElem?_cons_succ, List.getElem?_cons_zero, Option.bind_some, ↓reduceIte, Nat.reduceAdd, Nat.reduceLT, Nat.reduceEqDiff, Nat.zero_add, Nat.add_zero, Nat.add_one_ne_zero, Bool.not_true, Bool.not_false, and_self, gl0, Try.sz3, Try.ag3, Try.fd42f0]
      refine Does.ret hκ.hP hκ.hgl (c8) ⟨trivial, by simp [SV.bnd, SV.bndL], by first | (simp [SV.bnd, SV.bndL]; done) | assumption⟩ ?_
      refine hκ.runA 18 300 ?_
      simp (disch := omega) only [sBuild0, runR_next, runR_fork_true, runR_fork_false, runR_guard_ff, stepS, runOp, guardS, condS, toSR, sop, rOf, sPick, sLoadIn, sLoad, sInt, sEqAgg, aggS, eqCells, sBin, sUn, fillS, evps, sBuild, ev, svs, Env.get, Heap.get, takeN, cut, aggOf, setO, OutOK_stop, undefS, undef, halt, isAt, atC, execA_succ, Int.cast_ofNat_Int, Bool.true_and, List.size_toArray, List.length_cons, List.length_nil, List.range, List.range.loop, List.getElem?_toArray, List.getElem?_cons_succ, List.getElem?_cons_zero, List.map_cons, List.map_nil, Option.bind_some, Option.map_some, ↓reduceIte, Nat.reduceAdd, Nat.reduceLT, Nat.reduceEqDiff, Nat.zero_add, Nat.reduceBEq, Bool.not_true, Bool.not_false, decide_true, beq_self_eq_true, and_self, gl0, Try.sz44, Try.ag44, Try.ze44, Try.pl44, Try.eq44, Try.ar44]
      exact hj.less (by repeat' (first | exact EnvSub.nil _ | exact HeapSub.nil _ | refine EnvSub.cons rfl ?_ | refine HeapSub.cons rfl ?_ | (refine EnvSub.cons (by simp [Env.get]; done) ?_) | (refine HeapSub.cons (by simp [Heap.get]; done) ?_))) (by repeat' (first | exact EnvSub.nil _ | exact HeapSub.nil _ | refine EnvSub.cons rfl ?_ | refine HeapSub.cons rfl ?_ | (refine EnvSub.cons (by simp [Env.get]; done) ?_) | (refine HeapSub.cons (by simp [Heap.get]; done) ?_)))
    · rw [spR, hm, hg, Bool.and_true, if_neg (by rw [askE_yes hr]; decide), hf, if_pos rfl] at c1
      rw [hf] at c8
      have c9 := rspread_ok l m gap hr hm2 hg2
      generalize spV (spC l m gap) l = B at *
      refine Does.ret hκ.hP hκ.hgl (c1) ⟨trivial, by simp [SV.bnd, SV.bndL], by first | (simp [SV.bnd, SV.bndL]; done) | assumption⟩ ?_
      refine hκ.run 300 ?_
      simp (disch := omega) only [exec_succ, runR_next, runR_need, runR_call, stepS, runOp, toSR, sop, rOf, rNew, sAlloc, sAlloc0, sLoadIn, sLoad, sStoreIn, sStore, sFieldAddr, sExtract, ev, evs, svs, Env.get, Heap.get, Heap.set, takeN, cut, over, paste, aggOf, cellsS, one, ones, setO, Value.oneCell', OutOK_need, OutOK_call, undefS, undef, List.size_toArray, List.length_cons, List.length_nil, List.range, List.range.loop, List.getElem?_toArray, List.getElem?_cons_succ, List.getElem?_cons_zero, List.map_cons, List.map_nil, ↓reduceIte, Nat.reduceAdd, Nat.reduceLT, Nat.reduceEqDiff, Nat.zero_add, Nat.add_one_ne_zero, true_and, and_self, forall_const, gl0, Try.sz2, Try.ag2, Try.sz3, Try.ag3, Try.fd42f1, Try.fd42f2, Try.sz44, Try.ze44, Try.ar44]
      refine Does.ret hκ.hP hκ.hgl (c2) ⟨trivial, by simp [SV.bnd, SV.bndL], by first | (simp [SV.bnd, SV.bndL]; done) | assumption⟩ ?_
      refine hκ.run 300 ?_
      simp (disch := omega) only [exec_succ, runR_next, runR_call, stepS, runOp, toSR, sop, rOf, sExtract, ev, evs, Env.get, setO, OutOK_call, List.size_toArray, List.length_cons, List.length_nil, List.range, List.range.loop, List.getElem?_toArray, List.getElem?_cons_succ, List.getElem?_cons_zero, ↓reduceIte, Nat.reduceAdd, Nat.reduceLT, Nat.reduceEqDiff, Nat.zero_add, Nat.add_one_ne_zero, gl0]
      refine Does.ret hκ.hP hκ.hgl (c5) ⟨trivial, by simp [SV.bnd, SV.bndL], by first | (simp [SV.bnd, SV.bndL]; done) | assumption⟩ ?_
      refine hκ.run 300 ?_
      simp (disch := omega) only [exec_succ, runR_next, runR_fork_false, runR_call, stepS, runOp, condS, toSR, sop, rOf, sLoadIn, sLoad, sUn, sFieldAddr, ev, evs, Env.get, Heap.get, takeN, cut, aggOf, setO, OutOK_call, List.size_toArray, List.length_cons, List.length_nil, List.range, List.range.loop, List.getElem?_toArray, List.getElem?_cons_succ, List.getElem?_cons_zero, ↓reduceIte, Nat.reduceAdd, Nat.reduceLT, Nat.reduceEqDiff, Nat.zero_add, Nat.add_zero, Nat.add_one_ne_zero, Bool.not_true, gl0, Try.sz3, Try.ag3, Try.fd42f0]
      refine Does.ret hκ.hP hκ.hgl (c6) ⟨trivial, by simp [SV.bnd, SV.bndL], by first | (simp [SV.bnd, SV.bndL]; done) | assumption⟩ ?_
      refine hκ.run 300 ?_
      simp (disch := omega) only [exec_succ, runR_next, runR_guard_ff, runR_call, stepS, runOp, guardS, toSR, sop, rOf, sLoadIn, sLoad, sUn, sFieldAddr, ev, evs, Env.get, Heap.get, takeN, cut, aggOf, setO, OutOK_call, undefS, undef, List.getElem?_toArray, List.getElem?_cons_succ, List.getElem?_cons_zero, Option.bind_some, ↓reduceIte, Nat.reduceLT, Nat.reduceEqDiff, Nat.zero_add, Nat.add_one_ne_zero, Bool.not_true, Bool.not_false, and_self, gl0, Try.sz2, Try.ag2, Try.fd42f2]
      refine Does.ret hκ.hP hκ.hgl (c7) ⟨trivial, by simp [SV.bnd, SV.bndL], by first | (simp [SV.bnd, SV.bndL]; done) | assumption⟩ ?_
      refine hκ.run 300 ?_
      simp (disch := omega) only [exec_succ, runR_next, runR_fork_false, runR_guard_ff, runR_call, stepS, runOp, guardS, condS, toSR, sop, rOf, sPick, sLoadIn, sLoad, sUn, sFieldAddr, ev, evs, Env.get, Heap.get, takeN, cut, aggOf, setO, OutOK_call, undefS, undef, List.size_toArray, List.length_cons, List.length_nil, List.range, List.range.loop, List.getElem?_toArray, List.getElem?_cons_succ, List.getElem?_cons_zero, Option.bind_some, ↓reduceIte, Nat.reduceAdd, Nat.reduceLT, Nat.reduceEqDiff, Nat.zero_add, Nat.add_zero, Nat.add_one_ne_zero, Bool.not_true, Bool.not_false, and_self, gl0, Try.sz3, Try.ag3, Try.fd42f0]
      refine Does.ret hκ.hP hκ.hgl (c8) ⟨trivial, by simp [SV.bnd, SV.bndL], by first | (simp [SV.bnd, SV.bndL]; done) | assumption⟩ ?_
      refine hκ.run 300 ?_
      simp (disch := omega) only [allQuiet, quietOp, drawS, exec_succ, runR_next, runR_fork_false, runR_stop, stepS, runOp, condS, toSR, sop, rOf, sUn, ev, Env.get, setO, OutOK_stop, Option.isNone_none, Option.isNone_some, Bool.and_true, Bool.and_false, List.getElem?_toArray, List.getElem?_cons_succ, List.getElem?_cons_zero, ↓reduceIte, Nat.reduceLT, Bool.not_true, gl0]
      refine hκ.draw (.q 0 (.q 1 (.q 2 (.q 3 (.q 4 (.q 5 (.q 6 (.q 7 (.q 8 (.l 9 [3] (.q 10 (.q 11 (.fin))))))))))))) [0, 1, 2, 3, 4, 5, 6, 7, 8, 10, 11] (by kernel_rfl) (by kernel_rfl) rfl ?_
      simp (disch := omega) only [sop, rOf, sLoadIn, sLoad, sInt, sBin, sFieldAddr, ev, evs, Env.get, Heap.get, takeN, cut, aggOf, setO, drawP_q, drawP_l, dq, dqn, dl, GF.ff, guardP, R1Q, dstOK, loudP, List.getElem?_toArray, List.getElem?_cons_succ, List.getElem?_cons_zero, Option.bind_some, ↓reduceIte, Nat.reduceLT, Nat.reduceEqDiff, Nat.zero_add, Nat.add_zero, Nat.add_one_ne_zero, Bool.not_true, decide_true, true_and, gl0, Try.sz2, Try.ag2, Try.sz3, Try.ag3, Try.fd42f0, Try.fd42f2, Try.sz44, Try.ag44]
      refine DCall.of (Does.ret hκ.hP hκ.hgl (c9) ⟨trivial, by simp [SV.bnd, SV.bndL], by first | (simp [SV.bnd, SV.bndL]; done) | assumption⟩ ?_)
      simp (disch := omega) only [sop, rOf, sPick, sLoadIn, sLoad, sEqAgg, aggS, eqCells, sBin, ev, Env.get, Heap.get, takeN, cut, aggOf, setO, drawP_fin, drawP_q, dnext, dq, dqn, slotR, ag, GF.ff, guardP, R1Q, dstOK, again, again1, slotIs, R1OK, Bool.true_and, List.getElem?_toArray, List.getElem?_cons_succ, List.getElem?_cons_zero, Option.bind_some, Option.map_some, ↓reduceIte, Nat.reduceLT, Nat.reduceEqDiff, Bool.not_true, decide_true, true_and, and_self, Try.sz44, Try.ag44, Try.eq44]
      refine hκ.runA 18 300 ?_
      simp (disch := omega) only [runR_next, runR_fork_false, stepS, condS, ev, Env.get, OutOK_stop, halt, isAt, atC, execA_succ, ↓reduceIte, beq_self_eq_true, gl0]
      exact hj.less (by repeat' (first | exact EnvSub.nil _ | exact HeapSub.nil _ | refine EnvSub.cons rfl ?_ | refine HeapSub.cons rfl ?_ | (refine EnvSub.cons (by simp [Env.get]; done) ?_) | (refine HeapSub.cons (by simp [Heap.get]; done) ?_))) (by repeat' (first | exact EnvSub.nil _ | exact HeapSub.nil _ | refine EnvSub.cons rfl ?_ | refine HeapSub.cons rfl ?_ | (refine EnvSub.cons (by simp [Env.get]; done) ?_) | (refine HeapSub.cons (by simp [Heap.get]; done) ?_)))
  intro _ _
  by_cases i1 : i < 0
  · rw [wtR, inI_no (show ¬ (0 ≤ i ∧ i ≤ (l.length : Int) - 1) by omega), Bool.false_and, if_pos (by rw [askE_arg hr]; decide), askE_arg hr] at hwt
    subst hwt
    refine hκ.run 300 ?_
    simp (disch := omega) only [sBuiltin, exec_succ, runR_next, runR_fork_true, runR_guard_tt, runR_guard_tf, runR_stop, stepS, runOp, guardS, condS, toSR, sop, rOf, sPick, sLoadIn, sLoad, sInt, sBin, sUn, sFieldAddr, sLen, ev, evs, Env.get, Heap.get, takeN, cut, aggOf, OutOK_stop, undefS, undef, List.size_toArray, List.length_cons, List.length_nil, List.range, List.range.loop, List.getElem?_toArray, List.getElem?_cons_succ, List.getElem?_cons_zero, Option.bind_some, ↓reduceIte, Nat.reduceAdd, Nat.reduceLT, Nat.reduceEqDiff, Nat.zero_add, Nat.add_one_ne_zero, Bool.not_true, Bool.not_false, decide_true, and_self, gl0, Try.sz3, Try.ag3, Try.fd42f1, Try.fd42f2, i1]
    refine hκ.ret _ _ _ _ _ _ trivial rfl ?_
    rfl
  by_cases i2 : (l.length : Int) ≤ i
  · rw [wtR, inI_no (show ¬ (0 ≤ i ∧ i ≤ (l.length : Int) - 1) by omega), Bool.false_and, if_pos (by rw [askE_arg hr]; decide), askE_arg hr] at hwt
    subst hwt
    refine hκ.run 300 ?_
    simp (disch := omega) only [sBuiltin, exec_succ, runR_next, runR_fork_true, runR_guard_tt, runR_guard_ff, runR_guard_tf, runR_stop, stepS, runOp, guardS, condS, toSR, sop, rOf, sPick, sLoadIn, sLoad, sInt, sBin, sUn, sFieldAddr, sLen, ev, evs, Env.get, Heap.get, takeN, cut, aggOf, OutOK_stop, undefS, undef, List.size_toArray, List.length_cons, List.length_nil, List.length_map, List.range, List.range.loop, List.getElem?_toArray, List.getElem?_cons_succ, List.getElem?_cons_zero, Option.bind_some, ↓reduceIte, Nat.reduceAdd, Nat.reduceLT, Nat.reduceEqDiff, Nat.zero_add, Nat.add_one_ne_zero, Bool.not_true, Bool.not_false, decide_true, decide_false, and_self, gl0, Try.sz3, Try.ag3, Try.underlying22, Try.fd42f1, Try.fd42f2, i1, i2]
    refine hκ.ret _ _ _ _ _ _ trivial rfl ?_
    rfl
  refine hκ.run 300 ?_
  simp (disch := omega) only [sBuiltin, exec_succ, runR_next, runR_guard_ff, runR_call, stepS, runOp, guardS, toSR, sop, rOf, sPick, sLoadIn, sLoad, sInt, sBin, sFieldAddr, sLen, ev, evs, Env.get, Heap.get, takeN, cut, aggOf, OutOK_call, undefS, undef, List.size_toArray, List.length_cons, List.length_nil, List.length_map, List.range, List.range.loop, List.getElem?_toArray, List.getElem?_cons_succ, List.getElem?_cons_zero, Option.bind_some, ↓reduceIte, Nat.reduceAdd, Nat.reduceLT, Nat.reduceEqDiff, Nat.zero_add, Nat.add_one_ne_zero, Bool.not_false, decide_false, and_self, gl0, Try.sz2, Try.ag2, Try.sz3, Try.ag3, Try.underlying22, Try.fd42f1, Try.fd42f2, i1, i2]
  obtain ⟨j, rfl⟩ : ∃ j : Nat, i = j := ⟨i.toNat, by omega⟩
  rw [wtR, (inI_iff j 0 (l.length - 1)).2 (by omega), Bool.true_and] at hwt
  cases hg : inI gap 1 10000000
  · rw [hg, if_pos (by rw [askE_arg hr]; decide), askE_arg hr] at hwt
    rw [hg] at c7
    subst hwt
    refine Does.ret hκ.hP hκ.hgl (c7) ⟨trivial, by simp [SV.bnd, SV.bndL], by first | (simp [SV.bnd, SV.bndL]; done) | assumption⟩ ?_
    refine hκ.run 300 ?_
    simp (disch := omega) only [exec_succ, runR_next, runR_fork_true, runR_guard_tt, runR_guard_ff, runR_stop, stepS, runOp, guardS, condS, toSR, sop, rOf, sPick, sInt, sBin, sUn, ev, Env.get, setO, OutOK_stop, undefS, undef, List.size_toArray, List.length_cons, List.length_nil, List.range, List.range.loop, List.getElem?_toArray, List.getElem?_cons_succ, List.getElem?_cons_zero, Option.bind_some, ↓reduceIte, Nat.reduceAdd, Nat.reduceLT, Nat.reduceEqDiff, Nat.zero_add, Bool.not_true, Bool.not_false, decide_true, and_self, gl0]
    refine hκ.ret _ _ _ _ _ _ trivial rfl ?_
    rfl
  · rw [hg, if_neg (by rw [askE_yes hr]; decide)] at hwt
    rw [hg] at c7
    subst hwt
    refine Does.ret hκ.hP hκ.hgl (c7) ⟨trivial, by simp [SV.bnd, SV.bndL], by first | (simp [SV.bnd, SV.bndL]; done) | assumption⟩ ?_
    refine hκ.run 300 ?_
    simp (disch := omega) only [exec_succ, runR_next, runR_fork_false, runR_guard_tt, runR_guard_ff, runR_call, stepS, runOp, guardS, condS, toSR, sop, rOf, sPick, sLoadIn, sLoad, sInt, sBin, sUn, sFieldAddr, ev, evs, Env.get, Heap.get, takeN, cut, aggOf, setO, OutOK_call, undefS, undef, List.size_toArray, List.length_cons, List.length_nil, List.range, List.range.loop, List.getElem?_toArray, List.getElem?_cons_succ, List.getElem?_cons_zero, Option.bind_some, ↓reduceIte, Nat.reduceAdd, Nat.reduceLT, Nat.reduceEqDiff, Nat.zero_add, Nat.add_one_ne_zero, Bool.not_true, Bool.not_false, decide_true, and_self, gl0, Try.sz2, Try.ag2, Try.sz3, Try.ag3, Try.fd42f1, Try.fd42f2]
    refine Does.ret hκ.hP hκ.hgl (rwait_ok l j gap hr (by omega) ((inI_iff _ _ _).1 hg)) ⟨trivial, by simp [SV.bnd, SV.bndL], by first | (simp [SV.bnd, SV.bndL]; done) | assumption⟩ ?_
    refine hκ.run 300 ?_
    simp (disch := omega) only [exec_succ, runR_next, runR_guard_tt, runR_stop, stepS, runOp, guardS, toSR, sop, rOf, sPick, sInt, sBin, ev, Env.get, setO, OutOK_stop, undefS, undef, List.getElem?_toArray, List.getElem?_cons_succ, List.getElem?_cons_zero, Option.bind_some, ↓reduceIte, Nat.reduceLT, Nat.reduceEqDiff, Bool.not_true, decide_true, and_self, gl0]
    refine hκ.ret _ _ _ _ _ _ trivial rfl ?_
    rfl
end Go.Proofs.Ytomfpciigaopiaa
