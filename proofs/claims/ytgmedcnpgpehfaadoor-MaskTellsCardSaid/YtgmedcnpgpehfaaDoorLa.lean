/- The walk of the law MaskTells. No condition. -/
import Derived.Test.YtgmedcnpgpehfaaDoorWa
namespace Go.Proofs.YtgmedcnpgpehfaaDoor
open Go Go.Sy
set_option maxRecDepth 100000
set_option linter.unusedSimpArgs false
set_option linter.unusedVariables false

theorem alw_no {m : Msk} {s : Nat} (h : ¬ (okM m = true ∧ s < 256)) : alw m s = 0 := by rw [alw, if_neg h]
theorem lik_no {m : Msk} {s : Nat} (h : ¬ (okM m = true ∧ s < 256)) : lik m s = 0 := by rw [lik, alw_no h]; simp
theorem best_no {m : Msk} {s : Nat} {a : Int} (h : ¬ (okM m = true ∧ s < 256)) : bestB m s a = none := by
  have hz : ∀ c, hasB 0 c = false := fun c => by simp [hasB]
  rw [bestB, alw_no h, lik_no h, hz]
  simp [nextB, bits_zero]
theorem tells_law (m : Msk) (s : Nat) (at' : Int) (hm : u32M m) (hs : s < 4294967296) (ha : -9223372036854775808 ≤ at' ∧ at' ≤ 9223372036854775807) : Law Tryd.prog gl0 4 [Mk m, S s, I at'] := by
  have hal := alw_lt m s
  have hli := lik_lt m s
  refine Law.of (nt := 105) (res := [.tmp 6]) Tryd.mixed Tryd.func4 rfl rfl rfl rfl fun κ xc hκ => hκ.run 300 ?_
  simp (disch := omega) only [exec_succ, runR_next, runR_call, stepS, runOp, toSR, sop, rOf, rNew, sBox, isArr, ev, evs, Env.get, cellsS, envOf, OutOK_call, eq_self, Bool.false_eq_true, List.size_toArray, List.length_cons, List.length_nil, List.range, List.range.loop, List.getElem?_toArray, List.getElem?_cons_succ, List.getElem?_cons_zero, ↓reduceIte, Nat.reduceAdd, Nat.reduceLT, Nat.zero_add, Int.reduceNeg, gl0]
  refine Does.ret hκ.hP hκ.hgl (wakes_ok) ⟨trivial, by simp [SV.bndL], by first | (simp [SV.bnd]; done) | assumption⟩ ?_
  refine hκ.run 300 ?_
  simp (disch := omega) only [exec_succ, runR_next, runR_fork_false, runR_call, stepS, runOp, condS, toSR, sop, rOf, sLoadIn, sLoad, sUn, ev, evs, Env.get, Heap.get, takeN, cut, aggOf, setO, OutOK_call, eq_self, List.size_toArray, List.length_cons, List.length_nil, List.range, List.range.loop, List.getElem?_toArray, List.getElem?_cons_succ, List.getElem?_cons_zero, ↓reduceIte, Nat.reduceAdd, Nat.reduceLT, Nat.reduceEqDiff, Nat.zero_add, Int.reduceNeg, Bool.not_true, gl0, Tryd.sz31, Tryd.ag31]
  refine Does.ret hκ.hP hκ.hgl (rmright_ok m) ⟨trivial, by simp [SV.bnd, SV.bndL], by first | (simp [SV.bnd]; done) | assumption⟩ ?_
  refine hκ.run 300 ?_
  simp (disch := omega) only [exec_succ, runR_next, runR_call, stepS, runOp, toSR, sop, rOf, sLoadIn, sLoad, ev, evs, Env.get, Heap.get, takeN, cut, aggOf, setO, OutOK_call, eq_self, List.size_toArray, List.length_cons, List.length_nil, List.range, List.range.loop, List.getElem?_toArray, List.getElem?_cons_succ, List.getElem?_cons_zero, ↓reduceIte, Nat.reduceAdd, Nat.reduceLT, Nat.reduceEqDiff, Nat.zero_add, Int.reduceNeg, gl0, Tryd.sz31, Tryd.ag31]
  refine Does.ret hκ.hP hκ.hgl (mcheck_ok m hm) ⟨trivial, by simp [SV.bnd, SV.bndL], by first | (simp [SV.bnd]; done) | assumption⟩ ?_
  refine hκ.run 300 ?_
  simp (disch := omega) only [exec_succ, runR_next, runR_call, stepS, runOp, toSR, sop, rOf, sLoadIn, sLoad, ev, evs, Env.get, Heap.get, takeN, cut, aggOf, setO, OutOK_call, eq_self, List.size_toArray, List.length_cons, List.length_nil, List.range, List.range.loop, List.getElem?_toArray, List.getElem?_cons_succ, List.getElem?_cons_zero, ↓reduceIte, Nat.reduceAdd, Nat.reduceLT, Nat.reduceEqDiff, Nat.zero_add, Int.reduceNeg, reduceCtorEq, gl0, Tryd.sz31, Tryd.ag31]
  refine Does.ret hκ.hP hκ.hgl (best_ok m s at' hm hs ha) ⟨trivial, by simp [SV.bnd, SV.bndL], by first | (simp [SV.bnd, SV.bndL]; done) | assumption⟩ ?_
  refine hκ.run 300 ?_
  simp (disch := omega) only [exec_succ, runR_next, runR_need, stepS, runOp, guardS, toSR, sop, rOf, sInt, sEq, sEqR, sBin, sExtract, ev, Env.get, setO, OutOK_need, undefS, undef, eq_self, List.size_toArray, List.length_cons, List.length_nil, List.range, List.range.loop, List.getElem?_toArray, List.getElem?_cons_succ, List.getElem?_cons_zero, Option.bind_some, ↓reduceIte, Nat.reduceAdd, Nat.reduceLT, Nat.reduceEqDiff, Nat.zero_add, Int.reduceNeg, Bool.not_false, true_and, and_self, forall_const, gl0, Tryd.underlying4]
  cases hk : okM m
  · have hno : ¬ (okM m = true ∧ s < 256) := by simp [hk]
    rw [best_no hno]
    simp only [Bool.false_eq_true, if_false]
    simp (disch := omega) only [exec_succ, runR_next, runR_fork_true, runR_fork_false, runR_guard_tt, runR_guard_ff, runR_guard_tf, runR_call, stepS, runOp, guardS, condS, toSR, sop, rOf, sPick, sLoadIn, sLoad, sInt, sBin, sUn, ev, evs, Env.get, Heap.get, takeN, cut, aggOf, OutOK_call, undefS, undef, eq_self, List.size_toArray, List.length_cons, List.length_nil, List.range, List.range.loop, List.getElem?_toArray, List.getElem?_cons_succ, List.getElem?_cons_zero, Option.bind_some, Option.getD_none, Option.isSome_none, ↓reduceIte, Nat.reduceAdd, Nat.reduceLT, Nat.reduceEqDiff, Nat.zero_add, Int.reduceEq, Int.reduceNeg, Bool.not_true, Bool.not_false, decide_true, decide_false, beq_self_eq_true, and_self, reduceCtorEq, Tryd.sz31, Tryd.ag31]
    refine Does.ret hκ.hP hκ.hgl (allows_ok m s hm hs) ⟨trivial, by simp [SV.bnd, SV.bndL], by first | (simp [SV.bnd]; done) | assumption⟩ ?_
    rw [alw_no hno]
    refine hκ.run 300 ?_
    simp (disch := omega) only [exec_succ, runR_next, runR_guard_tt, runR_call, stepS, runOp, guardS, toSR, sop, rOf, sLoadIn, sLoad, sInt, sBin, ev, evs, Env.get, Heap.get, takeN, cut, aggOf, setO, OutOK_call, undefS, undef, eq_self, Int.cast_ofNat_Int, List.getElem?_toArray, List.getElem?_cons_succ, List.getElem?_cons_zero, Option.bind_some, ↓reduceIte, Nat.reduceLT, Nat.reduceEqDiff, Int.reduceNeg, Bool.not_true, decide_true, and_self, reduceCtorEq, gl0, Tryd.sz31, Tryd.ag31]
    refine Does.ret hκ.hP hκ.hgl (likes_ok m s hm hs) ⟨trivial, by simp [SV.bnd, SV.bndL], by first | (simp [SV.bnd]; done) | assumption⟩ ?_
    rw [lik_no hno]
    refine hκ.run 300 ?_
    simp (disch := omega) only [exec_succ, runR_next, runR_guard_tt, runR_stop, stepS, runOp, guardS, toSR, sop, rOf, sPick, sInt, sBin, sUn, ev, Env.get, setO, OutOK_stop, undefS, undef, eq_self, Int.cast_ofNat_Int, List.getElem?_toArray, List.getElem?_cons_succ, List.getElem?_cons_zero, Option.bind_some, ↓reduceIte, Nat.reduceLT, Nat.reduceEqDiff, Int.reduceNeg, Bool.not_true, Bool.not_false, decide_true, and_self, gl0]
    refine hκ.ret _ _ _ _ _ _ trivial rfl ?_
    rfl
  simp only [if_true]
  simp (disch := omega) only [exec_succ, runR_next, runR_fork_false, runR_guard_ff, runR_guard_ft, runR_call, stepS, runOp, guardS, condS, toSR, sop, rOf, sPick, sEq, sEqR, sBin, sUn, ev, evs, Env.get, OutOK_call, undefS, undef, eq_self, List.size_toArray, List.length_cons, List.length_nil, List.range, List.range.loop, List.getElem?_toArray, List.getElem?_cons_succ, List.getElem?_cons_zero, Option.bind_some, ↓reduceIte, Nat.reduceAdd, Nat.reduceLT, Nat.reduceEqDiff, Nat.zero_add, Int.reduceNeg, Bool.not_true, Bool.not_false, decide_true, beq_self_eq_true, and_self, reduceCtorEq]
  refine Does.ret hκ.hP hκ.hgl (rright_ok s) ⟨trivial, by simp [SV.bnd, SV.bndL], by first | (simp [SV.bnd]; done) | assumption⟩ ?_
  by_cases hs2 : s < 256
  · rw [decide_eq_true hs2]
    refine hκ.run 300 ?_
    simp (disch := omega) only [allQuiet, quietOp, drawS, exec_succ, runR_next, runR_fork_false, runR_guard_ff, runR_stop, stepS, runOp, guardS, condS, toSR, sop, rOf, sPick, sUn, ev, Env.get, setO, OutOK_stop, Option.isNone_none, undefS, undef, eq_self, Bool.and_true, Bool.and_false, List.getElem?_toArray, List.getElem?_cons_succ, List.getElem?_cons_zero, Option.bind_some, ↓reduceIte, Nat.reduceLT, Nat.reduceEqDiff, Int.reduceNeg, Bool.not_true, Bool.not_false, and_self, gl0]
    refine hκ.draw (.q 0 (.q 1 (.q 3 (.q 4 (.l 2 [3] (.l 5 [0] (.q 6 (.q 7 (.fin))))))))) [0, 1, 3, 4, 6, 7] (by kernel_rfl) (by kernel_rfl) rfl ?_
    simp (disch := omega) only [sop, rOf, sLoadIn, sLoad, ev, evs, Env.get, Heap.get, takeN, cut, aggOf, setO, drawP_q, drawP_l, dq, dqn, dl, guardP, R1Q, dstOK, loudP, eq_self, List.getElem?_toArray, List.getElem?_cons_succ, List.getElem?_cons_zero, ↓reduceIte, Nat.reduceLT, Nat.reduceEqDiff, Int.reduceNeg, true_and, reduceCtorEq, gl0, Tryd.sz31, Tryd.ag31]
    refine DCall.of (Does.ret hκ.hP hκ.hgl (rallows_ok m s hk hs2) ⟨trivial, by simp [SV.bnd, SV.bndL], by first | (simp [SV.bnd]; done) | assumption⟩ ?_)
    simp (disch := omega) only [sop, rOf, sLoadIn, sLoad, ev, evs, Env.get, Heap.get, takeN, cut, aggOf, setO, drawP_l, dnext, dl, slotR, ag, guardP, dstOK, loudP, again, again1, slotIs, R1OK, eq_self, List.getElem?_toArray, List.getElem?_cons_succ, List.getElem?_cons_zero, ↓reduceIte, Nat.reduceLT, Nat.reduceEqDiff, Int.reduceNeg, true_and, and_self, Tryd.sz31, Tryd.ag31]
    refine DCall.of (Does.ret hκ.hP hκ.hgl (rlikes_ok m s hk hs2) ⟨trivial, by simp [SV.bnd, SV.bndL], by first | (simp [SV.bnd]; done) | assumption⟩ ?_)
    simp (disch := omega) only [sop, rOf, sLoadIn, sLoad, ev, Env.get, Heap.get, takeN, cut, aggOf, setO, drawP_fin, drawP_q, dnext, dq, dqn, slotR, ag, guardP, R1Q, dstOK, again, again1, slotIs, R1OK, eq_self, List.getElem?_toArray, List.getElem?_cons_succ, List.getElem?_cons_zero, ↓reduceIte, Nat.reduceLT, Nat.reduceEqDiff, Int.reduceNeg, true_and, and_self, Tryd.sz31, Tryd.ag31]
    refine hκ.run 300 ?_
    simp (disch := omega) only [exec_succ, runR_next, runR_call, stepS, runOp, toSR, sop, rOf, sLoadIn, sLoad, ev, evs, Env.get, Heap.get, takeN, cut, aggOf, OutOK_call, eq_self, List.size_toArray, List.length_cons, List.length_nil, List.range, List.range.loop, List.getElem?_toArray, List.getElem?_cons_succ, List.getElem?_cons_zero, ↓reduceIte, Nat.reduceAdd, Nat.reduceLT, Nat.reduceEqDiff, Nat.zero_add, Int.reduceNeg, reduceCtorEq, gl0, Tryd.sz31, Tryd.ag31]
    refine Does.ret hκ.hP hκ.hgl (allows_ok m s hm hs) ⟨trivial, by simp [SV.bnd, SV.bndL], by first | (simp [SV.bnd]; done) | assumption⟩ ?_
    refine hκ.run 300 ?_
    simp (disch := omega) only [exec_succ, runR_next, runR_guard_ff, runR_call, stepS, runOp, guardS, toSR, sop, rOf, sLoadIn, sLoad, sInt, sBin, ev, evs, Env.get, Heap.get, takeN, cut, aggOf, setO, OutOK_call, undefS, undef, eq_self, List.getElem?_toArray, List.getElem?_cons_succ, List.getElem?_cons_zero, Option.bind_some, ↓reduceIte, Nat.reduceLT, Nat.reduceEqDiff, Int.reduceNeg, Bool.not_true, Bool.not_false, decide_true, and_self, reduceCtorEq, gl0, Tryd.sz31, Tryd.ag31]
    refine Does.ret hκ.hP hκ.hgl (likes_ok m s hm hs) ⟨trivial, by simp [SV.bnd, SV.bndL], by first | (simp [SV.bnd]; done) | assumption⟩ ?_
    refine hκ.run 300 ?_
    simp (disch := omega) only [exec_succ, runR_next, runR_fork_false, runR_guard_ff, runR_call, stepS, runOp, guardS, condS, toSR, sop, rOf, sPick, sInt, sBin, ev, evs, Env.get, setO, OutOK_call, undefS, undef, eq_self, List.size_toArray, List.length_cons, List.length_nil, List.range, List.range.loop, List.getElem?_toArray, List.getElem?_cons_succ, List.getElem?_cons_zero, Option.bind_some, ↓reduceIte, Nat.reduceAdd, Nat.reduceLT, Nat.reduceEqDiff, Nat.zero_add, Int.reduceNeg, Bool.not_true, Bool.not_false, decide_true, and_self, reduceCtorEq, gl0]
    refine Does.ret hκ.hP hκ.hgl (rhas_ok (alw m s) at') ⟨trivial, by simp [SV.bnd, SV.bndL], by first | (simp [SV.bnd]; done) | assumption⟩ ?_
    cases hb : hasB (alw m s) at'
    · have e : bestB m s at' = nextB (lik m s) (-1) := by simp only [bestB, hb, Bool.false_eq_true, if_false]
      rw [e]
      refine hκ.run 300 ?_
      simp (disch := omega) only [exec_succ, runR_next, runR_fork_false, runR_call, stepS, runOp, condS, toSR, sop, rOf, ev, evs, Env.get, setO, OutOK_call, eq_self, List.size_toArray, List.length_cons, List.length_nil, List.range, List.range.loop, List.getElem?_toArray, List.getElem?_cons_succ, List.getElem?_cons_zero, ↓reduceIte, Nat.reduceAdd, Nat.reduceLT, Nat.reduceEqDiff, Nat.zero_add, Int.reduceNeg, gl0]
      refine Does.ret hκ.hP hκ.hgl (rnext_ok (lik m s) (-1)) ⟨trivial, by simp [SV.bnd, SV.bndL], by first | (simp [SV.bnd, SV.bndL]; done) | assumption⟩ ?_
      cases nextB (lik m s) (-1) with
      | none =>
        simp only [Option.isSome_none, Option.getD_none]
        refine hκ.run 300 ?_
        simp (disch := omega) only [exec_succ, runR_next, runR_need, runR_guard_tt, runR_stop, stepS, runOp, guardS, toSR, sop, rOf, sPick, sInt, sEq, sEqR, sBin, sExtract, ev, Env.get, setO, OutOK_need, OutOK_stop, undefS, undef, eq_self, Bool.false_eq_true, List.size_toArray, List.length_cons, List.length_nil, List.range, List.range.loop, List.getElem?_toArray, List.getElem?_cons_succ, List.getElem?_cons_zero, Option.bind_some, ↓reduceIte, Nat.reduceAdd, Nat.reduceLT, Nat.reduceEqDiff, Nat.zero_add, Int.reduceNeg, Bool.not_true, decide_true, beq_self_eq_true, true_and, and_self, forall_const, gl0, Tryd.underlying4]
        refine hκ.ret _ _ _ _ _ _ trivial rfl ?_
        rfl
      | some c =>
        simp only [Option.isSome_some, Option.getD_some]
        refine hκ.run 300 ?_
        simp (disch := omega) only [exec_succ, runR_next, runR_need, runR_guard_tt, runR_stop, stepS, runOp, guardS, toSR, sop, rOf, sPick, sInt, sEq, sEqR, sBin, sExtract, ev, Env.get, setO, OutOK_need, OutOK_stop, undefS, undef, eq_self, Bool.false_eq_true, List.size_toArray, List.length_cons, List.length_nil, List.range, List.range.loop, List.getElem?_toArray, List.getElem?_cons_succ, List.getElem?_cons_zero, Option.bind_some, ↓reduceIte, Nat.reduceAdd, Nat.reduceLT, Nat.reduceEqDiff, Nat.zero_add, Int.reduceNeg, Bool.not_true, decide_true, beq_self_eq_true, true_and, and_self, forall_const, gl0, Tryd.underlying4]
        refine hκ.ret _ _ _ _ _ _ trivial rfl ?_
        rfl
    · have e : bestB m s at' = some at' := by simp only [bestB, hb, if_true]
      rw [e]
      simp only [Option.isSome_some, Option.getD_some]
      refine hκ.run 300 ?_
      simp (disch := omega) only [exec_succ, runR_next, runR_fork_true, runR_guard_tt, runR_stop, stepS, runOp, guardS, condS, toSR, sop, rOf, sPick, sInt, sBin, ev, Env.get, setO, OutOK_stop, undefS, undef, eq_self, List.size_toArray, List.length_cons, List.length_nil, List.range, List.range.loop, List.getElem?_toArray, List.getElem?_cons_succ, List.getElem?_cons_zero, Option.bind_some, ↓reduceIte, Nat.reduceAdd, Nat.reduceLT, Nat.reduceEqDiff, Nat.zero_add, Int.reduceNeg, Bool.not_true, decide_true, and_self, reduceCtorEq, gl0]
      refine hκ.ret _ _ _ _ _ _ trivial rfl ?_
      rfl
  · have hno : ¬ (okM m = true ∧ s < 256) := by simp [hs2]
    rw [best_no hno, decide_eq_false hs2]
    refine hκ.run 300 ?_
    simp (disch := omega) only [exec_succ, runR_next, runR_fork_true, runR_guard_ff, runR_call, stepS, runOp, guardS, condS, toSR, sop, rOf, sPick, sLoadIn, sLoad, sUn, ev, evs, Env.get, Heap.get, takeN, cut, aggOf, setO, OutOK_call, undefS, undef, eq_self, List.size_toArray, List.length_cons, List.length_nil, List.range, List.range.loop, List.getElem?_toArray, List.getElem?_cons_succ, List.getElem?_cons_zero, Option.bind_some, Option.getD_none, Option.isSome_none, ↓reduceIte, Nat.reduceAdd, Nat.reduceLT, Nat.reduceEqDiff, Nat.zero_add, Int.reduceNeg, Bool.not_false, and_self, reduceCtorEq, gl0, Tryd.sz31, Tryd.ag31]
    refine Does.ret hκ.hP hκ.hgl (allows_ok m s hm hs) ⟨trivial, by simp [SV.bnd, SV.bndL], by first | (simp [SV.bnd]; done) | assumption⟩ ?_
    rw [alw_no hno]
    refine hκ.run 300 ?_
    simp (disch := omega) only [exec_succ, runR_next, runR_guard_tt, runR_call, stepS, runOp, guardS, toSR, sop, rOf, sLoadIn, sLoad, sInt, sBin, ev, evs, Env.get, Heap.get, takeN, cut, aggOf, setO, OutOK_call, undefS, undef, eq_self, Int.cast_ofNat_Int, List.getElem?_toArray, List.getElem?_cons_succ, List.getElem?_cons_zero, Option.bind_some, ↓reduceIte, Nat.reduceLT, Nat.reduceEqDiff, Int.reduceNeg, Bool.not_true, decide_true, and_self, reduceCtorEq, gl0, Tryd.sz31, Tryd.ag31]
    refine Does.ret hκ.hP hκ.hgl (likes_ok m s hm hs) ⟨trivial, by simp [SV.bnd, SV.bndL], by first | (simp [SV.bnd]; done) | assumption⟩ ?_
    rw [lik_no hno]
    refine hκ.run 300 ?_
    simp (disch := omega) only [exec_succ, runR_next, runR_guard_tt, runR_stop, stepS, runOp, guardS, toSR, sop, rOf, sPick, sInt, sBin, sUn, ev, Env.get, setO, OutOK_stop, undefS, undef, eq_self, Int.cast_ofNat_Int, List.getElem?_toArray, List.getElem?_cons_succ, List.getElem?_cons_zero, Option.bind_some, ↓reduceIte, Nat.reduceLT, Nat.reduceEqDiff, Int.reduceNeg, Bool.not_true, Bool.not_false, decide_true, and_self, gl0]
    refine hκ.ret _ _ _ _ _ _ trivial rfl ?_
    rfl
end Go.Proofs.YtgmedcnpgpehfaaDoor
