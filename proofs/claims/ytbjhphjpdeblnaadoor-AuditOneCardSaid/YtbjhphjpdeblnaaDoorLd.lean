/- The walk of the law AuditMoments. No condition. -/
import Derived.Test.YtbjhphjpdeblnaaDoorBb
namespace Go.Proofs.YtbjhphjpdeblnaaDoor
open Go Go.Sy
set_option maxRecDepth 100000
set_option linter.unusedSimpArgs false
set_option linter.unusedVariables false

abbrev inM0' (m : Mo) : Prop := i64 m.1 ∧ (∀ x ∈ m.2, inX x) ∧ m.2.length < 2 ^ 46
theorem moments_law (m : Mo) (hm0 : inM0' m) : Law Tryd.prog gl0 3 [.agg (eM m)] := by
  obtain ⟨t, l⟩ := m
  obtain ⟨m1, m2, m3⟩ := hm0
  dsimp only at m1 m2 m3
  refine Law.of (nt := 48) (res := [.tmp 2]) Tryd.mixed Tryd.func3 rfl rfl rfl rfl fun κ xc hκ => hκ.run 300 ?_
  simp (disch := omega) only [exec_succ, runR_next, runR_call, stepS, runOp, toSR, sop, rOf, rNew, sBox, isArr, ev, evs, Env.get, cellsS, envOf, OutOK_call, Bool.false_eq_true, List.size_toArray, List.length_cons, List.length_nil, List.range, List.range.loop, List.getElem?_toArray, List.getElem?_cons_succ, List.getElem?_cons_zero, ↓reduceIte, Nat.reduceAdd, Nat.reduceLT, Nat.zero_add, gl0, eM]
  refine Does.ret hκ.hP hκ.hgl (wakes_ok) ⟨trivial, by simp [SV.bnd, SV.bndL], by first | (simp [SV.bnd, SV.bndL]; done) | assumption⟩ ?_
  refine hκ.run 300 ?_
  simp (disch := omega) only [sBuiltin, exec_succ, runR_next, runR_fork_false, stepS, runOp, condS, toSR, sop, rOf, sLoadIn, sLoad, sInt, sBin, sUn, sFieldAddr, sLen, ev, Env.get, Heap.get, takeN, cut, aggOf, setO, List.size_toArray, List.length_cons, List.length_nil, List.length_map, List.range, List.range.loop, List.getElem?_toArray, List.getElem?_cons_succ, List.getElem?_cons_zero, ↓reduceIte, Nat.reduceAdd, Nat.reduceLT, Nat.reduceEqDiff, Nat.zero_add, Nat.add_one_ne_zero, Bool.not_true, gl0, Tryd.underlying22, Tryd.sz22, Tryd.ag22, Tryd.fd24f1]
  by_cases h30 : (30 : Int) < l.length
  · simp (disch := omega) only [exec_succ, runR_next, runR_fork_true, runR_stop, stepS, runOp, toSR, sop, rOf, ev, OutOK_stop, List.size_toArray, List.length_cons, List.length_nil, List.range, List.range.loop, List.getElem?_toArray, List.getElem?_cons_zero, ↓reduceIte, Nat.reduceLT, Nat.zero_add, decide_true, h30]
    refine hκ.ret _ _ _ _ _ _ trivial rfl ?_
    rfl
  have hm : inM (t, l) := ⟨m1, m2, by dsimp only; omega⟩
  have c1 := admits_ok (t, l) hm
  have c2 := whole_ok (t, l) hm
  have c3 := idle_ok (t, l) hm
  have c4 := rmoment_ok (t, l) hm
  have hbl : (idleL l).length ≤ 8 := bits_len _
  have ad : ∀ {f : FuncId} {s : SV}, s.closed → ((fnv f).closed ∧ SV.bndL 0 [.agg (eM (t, l))] ∧ s.closed) := fun h => ⟨trivial, by simp [SV.bnd, SV.bndL, eM], h⟩
  simp (disch := omega) only [allQuiet, quietOp, drawS, exec_succ, runR_next, runR_fork_false, runR_stop, stepS, OutOK_stop, Option.isNone_none, Bool.and_true, Bool.and_false, decide_false, h30]
  cases hr : rightM (t, l)
  · rw [admM, hr] at c1
    rw [wholeM, hr] at c2
    rw [idleM, hr, if_neg (by decide)] at c3
    rw [hr] at c4
    refine hκ.draw (.q 0 (.q 2 (.q 4 (.l 1 [2, 4] (.l 3 [0, 4] (.l 5 [0, 2] (.q 6 (.q 7 (.q 8 (.fin)))))))))) [0, 2, 4, 6, 7, 8] (by kernel_rfl) (by kernel_rfl) rfl ?_
    simp (disch := omega) only [sop, rOf, sLoadIn, sLoad, ev, evs, Env.get, Heap.get, takeN, cut, aggOf, setO, drawP_q, drawP_l, dq, dqn, dl, guardP, R1Q, dstOK, loudP, List.getElem?_toArray, List.getElem?_cons_succ, List.getElem?_cons_zero, ↓reduceIte, Nat.reduceLT, Nat.reduceEqDiff, true_and, gl0, Tryd.sz24, Tryd.ag24]
    refine DCall.of (Does.ret hκ.hP hκ.hgl c1 (ad trivial) ?_)
    simp (disch := omega) only [sop, rOf, sLoadIn, sLoad, ev, evs, Env.get, Heap.get, takeN, cut, aggOf, setO, drawP_l, dnext, dl, slotR, ag, guardP, dstOK, loudP, again, again1, slotIs, R1OK, Bool.false_and, List.getElem?_toArray, List.getElem?_cons_succ, List.getElem?_cons_zero, ↓reduceIte, Nat.reduceLT, Nat.reduceEqDiff, true_and, and_self, Tryd.sz24, Tryd.ag24]
    refine DCall.of (Does.ret hκ.hP hκ.hgl c2 (ad trivial) ?_)
    simp (disch := omega) only [sop, rOf, sLoadIn, sLoad, ev, evs, Env.get, Heap.get, takeN, cut, aggOf, setO, drawP_l, dnext, dl, slotR, ag, guardP, dstOK, loudP, again, again1, slotIs, R1OK, Bool.false_and, List.getElem?_toArray, List.getElem?_cons_succ, List.getElem?_cons_zero, ↓reduceIte, Nat.reduceLT, Nat.reduceEqDiff, true_and, and_self, Tryd.sz24, Tryd.ag24]
    refine DCall.of (Does.ret hκ.hP hκ.hgl c3 (ad trivial) ?_)
    simp (disch := omega) only [sop, rOf, sLoadIn, sLoad, ev, Env.get, Heap.get, takeN, cut, aggOf, setO, drawP_fin, drawP_q, dnext, dq, dqn, slotR, ag, guardP, R1Q, dstOK, again, again1, slotIs, R1OK, List.getElem?_toArray, List.getElem?_cons_succ, List.getElem?_cons_zero, List.map_nil, ↓reduceIte, Nat.reduceLT, Nat.reduceEqDiff, true_and, and_self, Tryd.sz24, Tryd.ag24]
    refine hκ.run 300 ?_
    simp (disch := omega) only [exec_succ, runR_next, runR_call, stepS, runOp, toSR, sop, rOf, sLoadIn, sLoad, ev, evs, Env.get, Heap.get, takeN, cut, aggOf, OutOK_call, List.size_toArray, List.length_cons, List.length_nil, List.range, List.range.loop, List.getElem?_toArray, List.getElem?_cons_succ, List.getElem?_cons_zero, ↓reduceIte, Nat.reduceAdd, Nat.reduceLT, Nat.reduceEqDiff, Nat.zero_add, gl0, Tryd.sz24, Tryd.ag24]
    refine Does.ret hκ.hP hκ.hgl c4 (ad trivial) ?_
    refine hκ.run 300 ?_
    simp (disch := omega) only [sBuiltin, exec_succ, runR_next, runR_fork_true, runR_guard_tt, runR_stop, stepS, runOp, guardS, condS, toSR, sop, rOf, sPick, sInt, sBin, sUn, sLen, ev, Env.get, setO, OutOK_stop, undefS, undef, Int.cast_ofNat_Int, List.size_toArray, List.length_cons, List.length_nil, List.range, List.range.loop, List.getElem?_toArray, List.getElem?_cons_succ, List.getElem?_cons_zero, Option.bind_some, ↓reduceIte, Nat.reduceAdd, Nat.reduceLT, Nat.reduceEqDiff, Nat.zero_add, Bool.not_true, Bool.not_false, decide_true, and_self, gl0, Tryd.underlying27]
    refine hκ.ret _ _ _ _ _ _ trivial rfl ?_
    rfl
  have c5 := radmits_ok (t, l) hm hr
  have c6 := rwhole_ok (t, l) hm hr
  have c7 := (ridle_ok (t, l) hm hr).toRd
  rw [admM, hr, Bool.true_and] at c1
  rw [wholeM, hr, Bool.true_and] at c2
  rw [idleM, hr, if_pos rfl] at c3
  rw [hr] at c4
  have c8 := sameInts_ok (idleL l) (idleL l) (by omega)
  rw [decide_eq_true rfl] at c8
  dsimp only at c1 c2 c3 c5 c6 c7
  generalize admB 0 l = A at c1 c5
  generalize l.all (wholeX l) = B at c2 c6
  generalize idleL l = C at c3 c7 c8
  refine hκ.draw (.q 0 (.q 2 (.q 4 (.l 1 [2, 4] (.l 3 [0, 4] (.l 5 [0, 2] (.q 6 (.q 7 (.q 8 (.fin)))))))))) [0, 2, 4, 6, 7, 8] (by kernel_rfl) (by kernel_rfl) rfl ?_
  simp (disch := omega) only [sop, rOf, sLoadIn, sLoad, ev, evs, Env.get, Heap.get, takeN, cut, aggOf, setO, drawP_q, drawP_l, dq, dqn, dl, guardP, R1Q, dstOK, loudP, List.getElem?_toArray, List.getElem?_cons_succ, List.getElem?_cons_zero, ↓reduceIte, Nat.reduceLT, Nat.reduceEqDiff, true_and, gl0, Tryd.sz24, Tryd.ag24]
  refine DCall.of (Does.ret hκ.hP hκ.hgl c1 (ad trivial) ?_)
  simp (disch := omega) only [sop, rOf, sLoadIn, sLoad, ev, evs, Env.get, Heap.get, takeN, cut, aggOf, setO, drawP_l, dnext, dl, slotR, ag, guardP, dstOK, loudP, again, again1, slotIs, R1OK, List.getElem?_toArray, List.getElem?_cons_succ, List.getElem?_cons_zero, ↓reduceIte, Nat.reduceLT, Nat.reduceEqDiff, true_and, and_self, Tryd.sz24, Tryd.ag24]
  refine DCall.of (Does.ret hκ.hP hκ.hgl c2 (ad trivial) ?_)
  simp (disch := omega) only [sop, rOf, sLoadIn, sLoad, ev, evs, Env.get, Heap.get, takeN, cut, aggOf, setO, drawP_l, dnext, dl, slotR, ag, guardP, dstOK, loudP, again, again1, slotIs, R1OK, List.getElem?_toArray, List.getElem?_cons_succ, List.getElem?_cons_zero, ↓reduceIte, Nat.reduceLT, Nat.reduceEqDiff, true_and, and_self, Tryd.sz24, Tryd.ag24]
  refine DCall.of (Does.ret hκ.hP hκ.hgl c3 (ad trivial) ?_)
  simp (disch := omega) only [sop, rOf, sLoadIn, sLoad, ev, Env.get, Heap.get, takeN, cut, aggOf, setO, drawP_fin, drawP_q, dnext, dq, dqn, slotR, ag, guardP, R1Q, dstOK, again, again1, slotIs, R1OK, List.getElem?_toArray, List.getElem?_cons_succ, List.getElem?_cons_zero, ↓reduceIte, Nat.reduceLT, Nat.reduceEqDiff, true_and, and_self, Tryd.sz24, Tryd.ag24]
  refine hκ.run 300 ?_
  simp (disch := omega) only [exec_succ, runR_next, runR_call, stepS, runOp, toSR, sop, rOf, sLoadIn, sLoad, ev, evs, Env.get, Heap.get, takeN, cut, aggOf, OutOK_call, List.size_toArray, List.length_cons, List.length_nil, List.range, List.range.loop, List.getElem?_toArray, List.getElem?_cons_succ, List.getElem?_cons_zero, ↓reduceIte, Nat.reduceAdd, Nat.reduceLT, Nat.reduceEqDiff, Nat.zero_add, gl0, Tryd.sz24, Tryd.ag24]
  refine Does.ret hκ.hP hκ.hgl c4 (ad trivial) ?_
  refine hκ.run 300 ?_
  simp (disch := omega) only [exec_succ, runR_next, runR_fork_false, runR_call, stepS, runOp, condS, toSR, sop, rOf, sLoadIn, sLoad, sUn, ev, evs, Env.get, Heap.get, takeN, cut, aggOf, setO, OutOK_call, List.size_toArray, List.length_cons, List.length_nil, List.range, List.range.loop, List.getElem?_toArray, List.getElem?_cons_succ, List.getElem?_cons_zero, ↓reduceIte, Nat.reduceAdd, Nat.reduceLT, Nat.reduceEqDiff, Nat.zero_add, Bool.not_true, gl0, Tryd.sz24, Tryd.ag24]
  refine Does.ret hκ.hP hκ.hgl c5 (ad trivial) ?_
  refine hκ.run 300 ?_
  simp (disch := omega) only [exec_succ, runR_next, runR_need, runR_guard_tt, runR_call, stepS, runOp, guardS, toSR, sop, rOf, sLoadIn, sLoad, sEq, sEqR, sBin, ev, evs, Env.get, Heap.get, takeN, cut, aggOf, setO, OutOK_need, OutOK_call, undefS, undef, Bool.false_eq_true, List.getElem?_toArray, List.getElem?_cons_succ, List.getElem?_cons_zero, Option.bind_some, ↓reduceIte, Nat.reduceLT, Nat.reduceEqDiff, Bool.not_true, beq_self_eq_true, true_and, and_self, forall_const, gl0, Tryd.underlying4, Tryd.sz24, Tryd.ag24]
  refine Does.ret hκ.hP hκ.hgl c6 (ad trivial) ?_
  refine hκ.run 300 ?_
  simp (disch := omega) only [exec_succ, runR_next, runR_need, runR_guard_tt, runR_call, stepS, runOp, guardS, toSR, sop, rOf, sPick, sLoadIn, sLoad, sEq, sEqR, sBin, ev, evs, Env.get, Heap.get, takeN, cut, aggOf, setO, OutOK_need, OutOK_call, undefS, undef, Bool.false_eq_true, List.getElem?_toArray, List.getElem?_cons_succ, List.getElem?_cons_zero, Option.bind_some, ↓reduceIte, Nat.reduceLT, Nat.reduceEqDiff, Bool.not_true, beq_self_eq_true, true_and, and_self, forall_const, gl0, Tryd.underlying4, Tryd.sz24, Tryd.ag24]
  refine Does.ret hκ.hP hκ.hgl c7 (ad trivial) ?_
  refine hκ.run 300 ?_
  simp (disch := omega) only [exec_succ, runR_guard_tt, runR_call, stepS, runOp, guardS, ev, evs, Env.get, setO, OutOK_call, undefS, undef, List.getElem?_toArray, List.getElem?_cons_succ, List.getElem?_cons_zero, Option.bind_some, ↓reduceIte, Nat.reduceLT, Nat.reduceEqDiff, Bool.not_true, and_self, gl0]
  refine Does.ret hκ.hP hκ.hgl (c8) ⟨trivial, by simp [SV.bnd, SV.bndL], by first | (simp [SV.bnd, SV.bndL]; done) | assumption⟩ ?_
  refine hκ.run 300 ?_
  simp (disch := omega) only [exec_succ, runR_next, runR_stop, stepS, runOp, toSR, sop, rOf, sPick, ev, Env.get, setO, OutOK_stop, List.getElem?_toArray, List.getElem?_cons_succ, List.getElem?_cons_zero, ↓reduceIte, Nat.reduceLT, Nat.reduceEqDiff, gl0]
  refine hκ.ret _ _ _ _ _ _ trivial rfl ?_
  rfl
end Go.Proofs.YtbjhphjpdeblnaaDoor
