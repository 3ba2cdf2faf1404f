/- Traces: a picture is added. No condition. -/
import Derived.Test.YtcpanpkhdcifoaaVd
namespace Go.Proofs.Ytcpanpkhdcifoaa
open Go Go.Sy
set_option maxRecDepth 100000
set_option linter.unusedSimpArgs false
set_option linter.unusedVariables false

theorem pclone_ok (l : List Pt) (hn : l.length < 2 ^ 40) : Con Try.prog gl0 (fnv 41) [Ps l] 0 [] (Ret (Ps l)) := by
  rcases l with _ | ⟨p, l⟩
  · refine Con.noArg fun a cap => ?_
    cases a with
    | none =>
      refine Con.repR (s := .v (.slice none 0 0)) (fun _ _ => nil_rd) ?_
      refine Con.of Try.ok41 (nt := 8) (res := [.tmp 2]) Try.mixed Try.func41 rfl rfl rfl rfl fun κ xc hκ => hκ.run 300 ?_
      simp (disch := omega) only [exec_succ, runR_next, runR_need, runR_fork_true, runR_stop, stepS, runOp, condS, toSR, sop, rOf, sEq, sEqR, sBin, ev, Env.get, envOf, OutOK_need, OutOK_stop, Bool.false_eq_true, List.size_toArray, List.length_cons, List.length_nil, List.range, List.range.loop, List.getElem?_toArray, List.getElem?_cons_succ, List.getElem?_cons_zero, ↓reduceIte, Nat.reduceAdd, Nat.reduceLT, Nat.zero_add, Nat.add_one_ne_zero, true_and, forall_const, gl0, Try.underlying25]
      refine hκ.ret _ _ _ _ _ _ trivial rfl ?_
      exact .ret trivial
    | some a =>
      refine Con.toRd (T := 51) ?_
      refine Con.of Try.ok41 (nt := 8) (res := [.tmp 2]) Try.mixed Try.func41 rfl rfl rfl rfl fun κ xc hκ => hκ.run 300 ?_
      simp (disch := omega) only [sBuiltin, srcS, appArgS, sAppendTo, sAppend, exec_succ, runR_next, runR_need, runR_all, runR_fork_false, runR_stop, stepS, runOp, condS, toSR, sop, rOf, rNew, sEq, sEqR, sBin, sliceT, obind, fillS, evps, repeatL, sBuildSlice, chunk, ev, svs, Env.get, Heap.get, Heap.drop, ones, idFrees, envOf, OutOK_need, OutOK_all, OutOK_stop, List.take_nil, Bool.false_eq_true, List.size_toArray, List.length_cons, List.length_nil, List.range, List.range.loop, List.getElem?_toArray, List.getElem?_cons_succ, List.getElem?_cons_zero, List.map_nil, List.append_nil, ↓reduceIte, Nat.reduceAdd, Nat.reduceLT, Nat.reduceLeDiff, Nat.reduceEqDiff, Nat.zero_add, Nat.add_zero, Nat.zero_mul, Nat.add_one_ne_zero, true_and, and_self, forall_const, gl0, Try.underlying25, Try.sz51, Try.ze51, Try.by51]
      (repeat (refine ⟨by first | omega | (refine ⟨?_, ?_⟩ <;> omega) | trivial | (simp; done) | decide +kernel, fun _ => ?_⟩))
      intro c
      refine hκ.ret _ _ _ _ _ _ trivial rfl ?_
      exact Post.row rfl (by simp)
  · refine Con.toRd (T := 51) ?_
    rw [List.length_cons] at hn
    refine Con.of Try.ok41 (nt := 8) (res := [.tmp 2]) Try.mixed Try.func41 rfl rfl rfl rfl fun κ xc hκ => hκ.run 300 ?_
    simp (disch := omega) only [sBuiltin, srcS, appArgS, sAppendTo, sAppend, exec_succ, runR_next, runR_need, runR_all, runR_fork_false, runR_stop, stepS, runOp, condS, toSR, sop, rOf, rNew, sEq, sEqR, sBin, sliceT, obind, fillS, evps, repeatL, sBuildSlice, chunk, ev, svs, Env.get, Heap.get, Heap.drop, ones, idFrees, envOf, OutOK_need, OutOK_all, OutOK_stop, List.take_nil, Bool.false_eq_true, List.size_toArray, List.length_cons, List.length_nil, List.length_map, List.range, List.range.loop, List.getElem?_toArray, List.getElem?_cons_succ, List.getElem?_cons_zero, List.map_cons, List.map_nil, List.nil_append, ↓reduceIte, Nat.reduceAdd, Nat.reduceLT, Nat.reduceLeDiff, Nat.reduceEqDiff, Nat.zero_add, Nat.zero_mul, Nat.add_one_ne_zero, ne_eq, not_false_eq_true, true_and, and_self, forall_const, gl0, Try.underlying25, Try.sz51, Try.ze51, Try.by51, eP]
    (repeat (refine ⟨by first | omega | (refine ⟨?_, ?_⟩ <;> omega) | trivial | (simp; done) | decide +kernel, fun _ => ?_⟩))
    intro c
    refine hκ.ret _ _ _ _ _ _ trivial rfl ?_
    exact Post.row rfl (by simp)

theorem with_ok (fs : List Fr) (en : Int) (l : List Pt) (hf : ∀ f ∈ fs, inFr f) (hn : fs.length < 2 ^ 40) (hln : l.length < 2 ^ 40) : Con Try.prog gl0 (fnv 33) [Tr fs en, Ps l] 0 [] (Ret (Tr (addT fs en l) en)) := by
  have hm := keepN_le fs en
  refine Con.of Try.ok33 (nt := 62) (res := [.cell 4 24]) Try.mixed Try.func33 rfl rfl rfl rfl fun κ xc hκ => hκ.run 300 ?_
  simp (disch := omega) only [sBuiltin, srcS, sCopy, sMakeSlice, allQuiet, quietOp, drawS, exec_succ, runR_next, runR_need, runR_stop, stepS, runOp, toSR, sop, rOf, rNew, sAlloc, sAlloc0, sBox, isArr, sLoadIn, sLoad, sInt, sBin, sFieldAddr, sLen, sliceT, obind, ev, svs, Env.get, Heap.get, Heap.set, takeN, cut, aggOf, cellsS, envOf, Value.oneCell', OutOK_need, OutOK_stop, Option.isNone_none, Option.isNone_some, Int.cast_ofNat_Int, List.all_cons, List.all_nil, Bool.and_true, Bool.and_false, List.take_zero, Bool.false_eq_true, List.size_toArray, List.length_cons, List.length_nil, List.length_map, List.length_replicate, List.range, List.range.loop, List.getElem?_toArray, List.getElem?_cons_succ, List.getElem?_cons_zero, List.map_cons, List.map_nil, List.nil_append, ↓reduceIte, Nat.reduceAdd, Nat.reduceLT, Nat.reduceEqDiff, Nat.zero_add, Nat.add_zero, Nat.add_one_ne_zero, Int.toNat_natCast, ne_eq, and_true, true_and, wrap_i64, gl0, Try.underlying22, Try.sz22, Try.ag22, Try.ze24, Try.ar24, Try.fd24f0, Try.sz58, Try.ze58, Try.by58]
  (repeat (refine ⟨by first | omega | (refine ⟨?_, ?_⟩ <;> omega) | trivial | (simp; done) | decide +kernel, fun _ => ?_⟩))
  have et : List.take fs.length (List.map eF fs) = List.map eF fs := List.take_of_length_le (by simp)
  rw [et, Nat.min_self, List.drop_replicate, Nat.sub_self, List.replicate_zero, List.append_nil, show ((fs.length : Int) + 1).toNat = fs.length + 1 by omega]
  apply Sat.join (α := Unit) (nx := 3) (dfs := []) (fun _ => True) (fun _ => ([(6, .sl 2 2 0 (keepN fs en) (fs.length + 1)), (5, I (keepN fs en)), (2, .ptr 0 0 0 0), (4, .ptr 1 0 0 0), (1, Ps l)], [(2, .row 2 (fs.length + 1) 58 (fs.map eF)), (1, .own [.v (.slice none 0 0), I 0] 24), (0, .own [Fs fs, I en] 24)]))
  · intro hj
    have hj := hj () trivial
    by_cases h0 : fs.length = 0
    · have e0 : ((0 : Int) < (fs.length : Int)) = False := by simp only [eq_iff_iff, iff_false]; omega
      have ek : keepN fs en = fs.length := by rw [keepN, if_neg (fun h => h.1 h0)]
      rw [ek] at hj
      refine hκ.draw (.q 0 (.q 1 (.q 2 (.q 3 (.q 4 (.q 5 (.q 6 (.q 7 (.q 8 (.q 9 (.q 10 (.q 11 (.q 12 (.fin)))))))))))))) [0, 1, 2, 3, 4, 5, 6, 7, 8, 9, 10, 11, 12] (by kernel_rfl) (by kernel_rfl) rfl ?_
      simp (disch := omega) only [sop, rOf, sPick, sInt, sBin, ev, Env.get, setO, drawP_fin, drawP_q, dq, dqn, GF.ft, guardP, R1Q, dstOK, undefS, undef, List.getElem?_toArray, List.getElem?_cons_succ, List.getElem?_cons_zero, Option.bind_some, ↓reduceIte, Nat.reduceLT, Nat.reduceEqDiff, decide_false, true_and, gl0, e0]
      refine hκ.runA 7 300 ?_
      simp (disch := omega) only [runR_next, runR_fork_false, stepS, condS, ev, Env.get, OutOK_stop, halt, isAt, atC, execA_succ, ↓reduceIte, beq_self_eq_true, gl0]
      exact hj.less (by repeat' (first | exact EnvSub.nil _ | exact HeapSub.nil _ | refine EnvSub.cons rfl ?_ | refine HeapSub.cons rfl ?_ | (refine EnvSub.cons (by simp [Env.get]; done) ?_) | (refine HeapSub.cons (by simp [Heap.get]; done) ?_))) (by repeat' (first | exact EnvSub.nil _ | exact HeapSub.nil _ | refine EnvSub.cons rfl ?_ | refine HeapSub.cons rfl ?_ | (refine EnvSub.cons (by simp [Env.get]; done) ?_) | (refine HeapSub.cons (by simp [Heap.get]; done) ?_)))
    · have e0 : ((0 : Int) < (fs.length : Int)) = True := by simp only [eq_iff_iff, iff_true]; omega
      have en1 : (fs.length : Int) - 1 = ((fs.length - 1 : Nat) : Int) := by omega
      have gk : (List.map eF fs).getD (fs.length - 1) [] = eF (fs.getD (fs.length - 1) default) := getD_map _ _ _ (by omega)
      obtain ⟨f1, f2, f3⟩ := hf _ (getD_mem (show fs.length - 1 < fs.length by omega))
      by_cases e1 : aT fs (fs.length - 1) = en
      · have ek : keepN fs en = fs.length - 1 := by rw [keepN, if_pos ⟨h0, e1⟩]
        rw [ek] at hj
        refine hκ.draw (.q 0 (.q 1 (.q 2 (.q 3 (.q 4 (.q 5 (.q 6 (.q 7 (.q 8 (.q 9 (.q 10 (.q 11 (.q 12 (.fin)))))))))))))) [0, 1, 2, 3, 4, 5, 6, 7, 8, 9, 10, 11, 12] (by kernel_rfl) (by kernel_rfl) rfl ?_
        simp (disch := omega) only [sop, rOf, sPick, sLoadIn, sLoad, sInt, sBin, sFieldAddr, sIndexAddr, elemT, obind, ev, Env.get, Heap.get, takeN, cut, aggOf, setO, drawP_fin, drawP_q, dq, dqn, GF.tt, guardP, R1Q, dstOK, List.length_map, List.getElem?_toArray, List.getElem?_cons_succ, List.getElem?_cons_zero, Option.bind_some, ↓reduceIte, Nat.reduceLT, Nat.reduceEqDiff, Nat.zero_add, Nat.add_zero, Nat.add_one_ne_zero, Int.toNat_natCast, decide_true, true_and, wrap_i64, gl0, Try.sz2, Try.ag2, Try.underlying22, Try.fd24f1, Try.sz58, Try.fd58f0, e0, en1, gk, e1, eF]
        (repeat (refine ⟨by first | omega | (refine ⟨?_, ?_⟩ <;> omega) | trivial | (simp; done) | decide +kernel, fun _ => ?_⟩))
        refine hκ.runA 7 300 ?_
        simp (disch := omega) only [runR_next, runR_need, runR_fork_true, stepS, runOp, condS, toSR, sop, rOf, sInt, sBin, optI, sSlice, elemT, obind, ev, Env.get, OutOK_need, OutOK_stop, halt, isAt, atC, execA_succ, Int.cast_ofNat_Int, Int.natCast_add, Bool.false_eq_true, List.size_toArray, List.length_cons, List.length_nil, List.range, List.range.loop, List.getElem?_toArray, List.getElem?_cons_succ, List.getElem?_cons_zero, Option.map_some, Option.map_none, Option.getD_some, Option.getD_none, Option.isSome_some, Option.isSome_none, ↓reduceIte, Nat.reduceAdd, Nat.reduceLT, Nat.reduceEqDiff, Nat.zero_add, Nat.add_zero, Nat.sub_zero, Nat.reduceBEq, Int.reduceToNat, Int.reduceLE, Int.toNat_natCast, beq_self_eq_true, and_true, true_and, implies_true, wrap_i64, gl0, Try.underlying22, Try.sz58, en1]
        (repeat (refine ⟨by first | omega | (refine ⟨?_, ?_⟩ <;> omega) | trivial | (simp; done) | decide +kernel, fun _ => ?_⟩))
        rw [show ((fs.length : Int) + 1).toNat = fs.length + 1 by omega]
        exact hj.less (by repeat' (first | exact EnvSub.nil _ | exact HeapSub.nil _ | refine EnvSub.cons rfl ?_ | refine HeapSub.cons rfl ?_ | (refine EnvSub.cons (by simp [Env.get]; done) ?_) | (refine HeapSub.cons (by simp [Heap.get]; done) ?_))) (by repeat' (first | exact EnvSub.nil _ | exact HeapSub.nil _ | refine EnvSub.cons rfl ?_ | refine HeapSub.cons rfl ?_ | (refine EnvSub.cons (by simp [Env.get]; done) ?_) | (refine HeapSub.cons (by simp [Heap.get]; done) ?_)))
      · have ek : keepN fs en = fs.length := by rw [keepN, if_neg (fun h => e1 h.2)]
        rw [ek] at hj
        refine hκ.draw (.q 0 (.q 1 (.q 2 (.q 3 (.q 4 (.q 5 (.q 6 (.q 7 (.q 8 (.q 9 (.q 10 (.q 11 (.q 12 (.fin)))))))))))))) [0, 1, 2, 3, 4, 5, 6, 7, 8, 9, 10, 11, 12] (by kernel_rfl) (by kernel_rfl) rfl ?_
        simp (disch := omega) only [sop, rOf, sPick, sLoadIn, sLoad, sInt, sBin, sFieldAddr, sIndexAddr, elemT, obind, ev, Env.get, Heap.get, takeN, cut, aggOf, setO, drawP_fin, drawP_q, dq, dqn, GF.tt, guardP, R1Q, dstOK, List.length_map, List.getElem?_toArray, List.getElem?_cons_succ, List.getElem?_cons_zero, Option.bind_some, ↓reduceIte, Nat.reduceLT, Nat.reduceEqDiff, Nat.zero_add, Nat.add_zero, Nat.add_one_ne_zero, Int.toNat_natCast, decide_true, decide_false, true_and, wrap_i64, gl0, Try.sz2, Try.ag2, Try.underlying22, Try.fd24f1, Try.sz58, Try.fd58f0, e0, en1, gk, e1, eF]
        (repeat (refine ⟨by first | omega | (refine ⟨?_, ?_⟩ <;> omega) | trivial | (simp; done) | decide +kernel, fun _ => ?_⟩))
        refine hκ.runA 7 300 ?_
        simp (disch := omega) only [runR_next, runR_fork_false, stepS, condS, ev, Env.get, OutOK_stop, halt, isAt, atC, execA_succ, ↓reduceIte, beq_self_eq_true, gl0]
        exact hj.less (by repeat' (first | exact EnvSub.nil _ | exact HeapSub.nil _ | refine EnvSub.cons rfl ?_ | refine HeapSub.cons rfl ?_ | (refine EnvSub.cons (by simp [Env.get]; done) ?_) | (refine HeapSub.cons (by simp [Heap.get]; done) ?_))) (by repeat' (first | exact EnvSub.nil _ | exact HeapSub.nil _ | refine EnvSub.cons rfl ?_ | refine HeapSub.cons rfl ?_ | (refine EnvSub.cons (by simp [Env.get]; done) ?_) | (refine HeapSub.cons (by simp [Heap.get]; done) ?_)))
  intro _ _
  generalize hmm : keepN fs en = m at hm ⊢
  have em : List.take m (List.map eF fs) = List.map eF (List.take m fs) := List.map_take.symm
  have el : (List.take m fs).length = m := by simp; omega
  have e9 : List.take (m + 1) (List.map eF (List.take m fs) ++ [[I en, Ps l]]) = List.map eF (fs.take m ++ [(en, l)]) := by rw [List.take_of_length_le (by simp; omega), List.map_append]; rfl
  by_cases h0 : m = 0
  · have e0 : (((m : Int) = 0)) = True := by first | (simp only [eq_iff_iff, iff_true]; first | assumption | omega) | (simp; omega)
    have ea : addT fs en l = fs.take m ++ [(en, l)] := by rw [addT, hmm, if_neg (fun h => h.1 h0)]
    rw [ea] at hκ
    refine hκ.run 300 ?_
    simp (disch := omega) only [allQuiet, quietOp, drawS, exec_succ, runR_next, runR_fork_true, runR_guard_tf, runR_stop, stepS, runOp, guardS, condS, toSR, sop, rOf, sPick, sLoad, sInt, sBin, sUn, sFieldAddr, sIndexAddr, ev, evs, Env.get, OutOK_stop, Option.isNone_none, undefS, undef, Bool.and_true, Bool.and_false, List.size_toArray, List.length_cons, List.length_nil, List.range, List.range.loop, List.getElem?_toArray, List.getElem?_cons_succ, List.getElem?_cons_zero, Option.bind_some, ↓reduceIte, Nat.reduceAdd, Nat.reduceLT, Nat.reduceEqDiff, Nat.zero_add, Bool.not_false, decide_true, and_self, gl0, e0]
    refine hκ.draw (.q 0 (.q 1 (.q 2 (.q 3 (.l 4 [2] (.q 5 (.l 6 [2] (.l 7 [2] (.l 8 [] (.fin)))))))))) [0, 1, 2, 3, 5] (by kernel_rfl) (by kernel_rfl) rfl ?_
    simp (disch := omega) only [sop, rOf, sLoadIn, sLoad, sFieldAddr, ev, evs, Env.get, Heap.get, takeN, cut, aggOf, setO, drawP_q, drawP_l, dq, dqn, dl, guardP, R1Q, dstOK, loudP, List.getElem?_toArray, List.getElem?_cons_succ, List.getElem?_cons_zero, ↓reduceIte, Nat.reduceLT, Nat.reduceEqDiff, Nat.zero_add, Nat.add_one_ne_zero, true_and, gl0, Try.sz2, Try.ag2, Try.fd24f1]
    refine DCall.of (Does.ret hκ.hP hκ.hgl (pclone_ok l hln) ⟨trivial, by simp [SV.bnd, SV.bndL], by first | (simp [SV.bnd, SV.bndL]; done) | assumption⟩ ?_)
    simp (disch := omega) only [sBuiltin, srcS, appArgS, sAppendTo, sAppend, sop, rOf, rNew, isArr, sLoadIn, sLoad, sliceT, obind, fillS, evps, sBuild, repeatL, sBuildSlice, chunk, ev, svs, Env.get, Heap.get, Heap.drop, takeN, cut, over, paste, aggOf, cellsS, one, ones, idFree, idFrees, setO, Value.cells, Value.oneCell', drawP_fin, drawP_q, drawP_l, dnext, dq, dqn, dl, slotR, ag, guardP, R1Q, dstOK, loudP, again, again1, slotIs, R1OK, Bool.and_true, List.drop_zero, List.take_succ_cons, List.take_nil, List.length_cons, List.length_nil, List.length_map, List.range, List.range.loop, List.getElem?_toArray, List.getElem?_cons_succ, List.getElem?_cons_zero, List.map_cons, List.map_nil, List.append_nil, List.toList_toArray, ↓reduceIte, Nat.reduceAdd, Nat.reduceLT, Nat.reduceLeDiff, Nat.reduceEqDiff, Nat.zero_add, Nat.zero_mul, Nat.one_mul, Nat.add_one_ne_zero, ne_eq, not_false_eq_true, true_and, and_self, forall_const, reduceCtorEq, Try.sz2, Try.ag2, Try.underlying22, Try.sz58, Try.ze58, Try.pl58, Try.by58]
    (repeat (refine ⟨by first | omega | (refine ⟨?_, ?_⟩ <;> omega) | trivial | (simp; done) | decide +kernel, fun _ => ?_⟩))
    intro c
    rw [em]
    refine hκ.run 300 ?_
    simp (disch := omega) only [exec_succ, runR_next, runR_need, runR_stop, stepS, runOp, toSR, sop, rOf, isArr, sLoadIn, sLoad, sStoreIn, sStore, sFieldAddr, fillS, evps, sBuild, ev, svs, Env.get, Heap.get, Heap.set, takeN, cut, over, paste, aggOf, cellsS, one, ones, Value.cells, Value.oneCell', OutOK_need, OutOK_stop, undefS, undef, List.size_toArray, List.length_cons, List.length_nil, List.range, List.range.loop, List.getElem?_toArray, List.getElem?_cons_succ, List.getElem?_cons_zero, List.map_cons, List.map_nil, List.toList_toArray, ↓reduceIte, Nat.reduceAdd, Nat.reduceLT, Nat.reduceEqDiff, Nat.zero_add, Nat.add_one_ne_zero, true_and, and_self, forall_const, gl0, Try.sz2, Try.ag2, Try.sz24, Try.ze24, Try.pl24, Try.fd24f1]
    refine Sat.frzOwn [4] 1 _ _ rfl (by decide) (by first | (simp [lendPL, lendP, lendSlP, Heap.get]; done) | (simp only [lendPL, lendP, lendSlP, Heap.get, List.mem_singleton, List.mem_cons, List.not_mem_nil, or_false, or_true, true_or, Nat.reduceEqDiff, Nat.one_ne_zero, Nat.zero_ne_one, ↓reduceIte, and_true, true_and, List.length_map, List.length_append, List.length_cons, List.length_nil, List.length_replicate]; omega)) ?_
    simp only [lendL, lendS, lendSl, Heap.get, without, List.mem_singleton, List.mem_cons, List.not_mem_nil, or_false, or_true, true_or, List.drop_zero, List.take_length, List.take_succ_cons, List.take_zero, Nat.reduceAdd, Nat.reduceEqDiff, Nat.one_ne_zero, Nat.zero_ne_one, ↓reduceIte]
    simp only [Heap.set, Nat.reduceEqDiff, ↓reduceIte, e9]
    refine hκ.run 300 ?_
    simp (disch := omega) only [exec_succ, runR_stop, stepS, OutOK_stop, gl0]
    refine hκ.ret _ _ _ _ _ _ trivial rfl ?_
    exact .ret (by simp [SV.bnd, SV.bndL])
  · have e0 : (((m : Int) = 0)) = False := by first | (simp only [eq_iff_iff, iff_false]; first | assumption | omega) | (simp; omega)
    have en1 : (m : Int) - 1 = ((m - 1 : Nat) : Int) := by omega
    have gk : (List.map eF fs).getD (m - 1) [] = eF (fs.getD (m - 1) default) := getD_map _ _ _ (by omega)
    obtain ⟨f1, f2, f3⟩ := hf _ (getD_mem (show m - 1 < fs.length by omega))
    have c1 := alike_ok (pT fs (m - 1)) l (show (fs.getD (m - 1) default).2.length < 2 ^ 62 by omega)
    by_cases e1 : pT fs (m - 1) = l
    · have ea : addT fs en l = fs.take m := by rw [addT, hmm, if_pos ⟨h0, e1⟩]
      rw [ea] at hκ
      rw [decide_eq_true e1] at c1
      refine hκ.run 300 ?_
      simp (disch := omega) only [exec_succ, runR_next, runR_need, runR_guard_ff, runR_call, stepS, runOp, guardS, toSR, sop, rOf, sLoadIn, sLoad, sInt, sBin, sFieldAddr, sIndexAddr, elemT, obind, ev, evs, Env.get, Heap.get, takeN, cut, aggOf, OutOK_need, OutOK_call, undefS, undef, List.size_toArray, List.length_cons, List.length_nil, List.length_map, List.range, List.range.loop, List.getElem?_toArray, List.getElem?_cons_succ, List.getElem?_cons_zero, Option.bind_some, ↓reduceIte, Nat.reduceAdd, Nat.reduceLT, Nat.reduceEqDiff, Nat.zero_add, Nat.add_one_ne_zero, Int.toNat_natCast, Bool.not_false, decide_false, and_self, wrap_i64, gl0, Try.underlying22, Try.sz25, Try.ag25, Try.sz58, Try.fd58f1, e0, en1, gk, eF]
      (repeat (refine ⟨by first | omega | (refine ⟨?_, ?_⟩ <;> omega) | trivial | (simp; done) | decide +kernel, fun _ => ?_⟩))
      refine Does.ret hκ.hP hκ.hgl (c1) ⟨trivial, by simp [SV.bnd, SV.bndL], by first | (simp [SV.bnd, SV.bndL]; done) | assumption⟩ ?_
      refine hκ.run 300 ?_
      simp (disch := omega) only [exec_succ, runR_next, runR_need, runR_fork_false, runR_guard_ff, runR_stop, stepS, runOp, guardS, condS, toSR, sop, rOf, sPick, isArr, sLoadIn, sLoad, sStoreIn, sStore, sUn, sFieldAddr, fillS, evps, sBuild, ev, svs, Env.get, Heap.get, Heap.set, takeN, cut, over, paste, aggOf, cellsS, one, ones, setO, Value.cells, Value.oneCell', OutOK_need, OutOK_stop, undefS, undef, List.size_toArray, List.length_cons, List.length_nil, List.range, List.range.loop, List.getElem?_toArray, List.getElem?_cons_succ, List.getElem?_cons_zero, List.map_cons, List.map_nil, Option.bind_some, List.toList_toArray, ↓reduceIte, Nat.reduceAdd, Nat.reduceLT, Nat.reduceEqDiff, Nat.zero_add, Nat.add_one_ne_zero, Bool.not_true, Bool.not_false, true_and, and_self, forall_const, gl0, Try.sz2, Try.ag2, Try.sz24, Try.ze24, Try.pl24, Try.fd24f1]
      refine Sat.frzOwn [2] 1 _ _ rfl (by decide) (by first | (simp [lendPL, lendP, lendSlP, Heap.get]; done) | (simp only [lendPL, lendP, lendSlP, Heap.get, List.mem_singleton, List.mem_cons, List.not_mem_nil, or_false, or_true, true_or, Nat.reduceEqDiff, Nat.one_ne_zero, Nat.zero_ne_one, ↓reduceIte, and_true, true_and, List.length_map, List.length_append, List.length_cons, List.length_nil, List.length_replicate]; omega)) ?_
      simp only [lendL, lendS, lendSl, Heap.get, without, List.mem_singleton, List.mem_cons, List.not_mem_nil, or_false, or_true, true_or, List.drop_zero, List.take_length, List.take_succ_cons, List.take_zero, Nat.reduceAdd, Nat.reduceEqDiff, Nat.one_ne_zero, Nat.zero_ne_one, ↓reduceIte]
      simp only [Heap.set, Nat.reduceEqDiff, ↓reduceIte, em]
      refine hκ.run 300 ?_
      simp (disch := omega) only [exec_succ, runR_stop, stepS, OutOK_stop, gl0]
      refine hκ.ret _ _ _ _ _ _ trivial rfl ?_
      exact .ret (by simp [SV.bnd, SV.bndL])
    · have ea : addT fs en l = fs.take m ++ [(en, l)] := by rw [addT, hmm, if_neg (fun h => e1 h.2)]
      rw [ea] at hκ
      rw [decide_eq_false e1] at c1
      refine hκ.run 300 ?_
      simp (disch := omega) only [exec_succ, runR_next, runR_need, runR_guard_ff, runR_call, stepS, runOp, guardS, toSR, sop, rOf, sLoadIn, sLoad, sInt, sBin, sFieldAddr, sIndexAddr, elemT, obind, ev, evs, Env.get, Heap.get, takeN, cut, aggOf, OutOK_need, OutOK_call, undefS, undef, List.size_toArray, List.length_cons, List.length_nil, List.length_map, List.range, List.range.loop, List.getElem?_toArray, List.getElem?_cons_succ, List.getElem?_cons_zero, Option.bind_some, ↓reduceIte, Nat.reduceAdd, Nat.reduceLT, Nat.reduceEqDiff, Nat.zero_add, Nat.add_one_ne_zero, Int.toNat_natCast, Bool.not_false, decide_false, and_self, wrap_i64, gl0, Try.underlying22, Try.sz25, Try.ag25, Try.sz58, Try.fd58f1, e0, en1, gk, eF]
      (repeat (refine ⟨by first | omega | (refine ⟨?_, ?_⟩ <;> omega) | trivial | (simp; done) | decide +kernel, fun _ => ?_⟩))
      refine Does.ret hκ.hP hκ.hgl (c1) ⟨trivial, by simp [SV.bnd, SV.bndL], by first | (simp [SV.bnd, SV.bndL]; done) | assumption⟩ ?_
      refine hκ.run 300 ?_
      simp (disch := omega) only [allQuiet, quietOp, drawS, exec_succ, runR_next, runR_fork_true, runR_guard_ff, runR_stop, stepS, runOp, guardS, condS, toSR, sop, rOf, sPick, sUn, ev, Env.get, setO, OutOK_stop, Option.isNone_none, undefS, undef, Bool.and_true, Bool.and_false, List.getElem?_toArray, List.getElem?_cons_succ, List.getElem?_cons_zero, Option.bind_some, ↓reduceIte, Nat.reduceLT, Nat.reduceEqDiff, Bool.not_false, and_self, gl0]
      refine hκ.draw (.q 0 (.q 1 (.q 2 (.q 3 (.l 4 [2] (.q 5 (.l 6 [2] (.l 7 [2] (.l 8 [] (.fin)))))))))) [0, 1, 2, 3, 5] (by kernel_rfl) (by kernel_rfl) rfl ?_
      simp (disch := omega) only [sop, rOf, sLoadIn, sLoad, sFieldAddr, ev, evs, Env.get, Heap.get, takeN, cut, aggOf, setO, drawP_q, drawP_l, dq, dqn, dl, guardP, R1Q, dstOK, loudP, List.getElem?_toArray, List.getElem?_cons_succ, List.getElem?_cons_zero, ↓reduceIte, Nat.reduceLT, Nat.reduceEqDiff, Nat.zero_add, Nat.add_one_ne_zero, true_and, gl0, Try.sz2, Try.ag2, Try.fd24f1]
      refine DCall.of (Does.ret hκ.hP hκ.hgl (pclone_ok l hln) ⟨trivial, by simp [SV.bnd, SV.bndL], by first | (simp [SV.bnd, SV.bndL]; done) | assumption⟩ ?_)
      simp (disch := omega) only [sBuiltin, srcS, appArgS, sAppendTo, sAppend, sop, rOf, rNew, isArr, sLoadIn, sLoad, sliceT, obind, fillS, evps, sBuild, repeatL, sBuildSlice, chunk, ev, svs, Env.get, Heap.get, Heap.drop, takeN, cut, over, paste, aggOf, cellsS, one, ones, idFree, idFrees, setO, Value.cells, Value.oneCell', drawP_fin, drawP_q, drawP_l, dnext, dq, dqn, dl, slotR, ag, guardP, R1Q, dstOK, loudP, again, again1, slotIs, R1OK, Bool.and_true, List.drop_zero, List.take_succ_cons, List.take_nil, List.length_cons, List.length_nil, List.length_map, List.range, List.range.loop, List.getElem?_toArray, List.getElem?_cons_succ, List.getElem?_cons_zero, List.map_cons, List.map_nil, List.append_nil, List.toList_toArray, ↓reduceIte, Nat.reduceAdd, Nat.reduceLT, Nat.reduceLeDiff, Nat.reduceEqDiff, Nat.zero_add, Nat.zero_mul, Nat.one_mul, Nat.add_one_ne_zero, ne_eq, not_false_eq_true, true_and, and_self, forall_const, reduceCtorEq, Try.sz2, Try.ag2, Try.underlying22, Try.sz58, Try.ze58, Try.pl58, Try.by58]
      (repeat (refine ⟨by first | omega | (refine ⟨?_, ?_⟩ <;> omega) | trivial | (simp; done) | decide +kernel, fun _ => ?_⟩))
      intro c
      rw [em]
      refine hκ.run 300 ?_
      simp (disch := omega) only [exec_succ, runR_next, runR_need, runR_stop, stepS, runOp, toSR, sop, rOf, isArr, sLoadIn, sLoad, sStoreIn, sStore, sFieldAddr, fillS, evps, sBuild, ev, svs, Env.get, Heap.get, Heap.set, takeN, cut, over, paste, aggOf, cellsS, one, ones, Value.cells, Value.oneCell', OutOK_need, OutOK_stop, undefS, undef, List.size_toArray, List.length_cons, List.length_nil, List.range, List.range.loop, List.getElem?_toArray, List.getElem?_cons_succ, List.getElem?_cons_zero, List.map_cons, List.map_nil, List.toList_toArray, ↓reduceIte, Nat.reduceAdd, Nat.reduceLT, Nat.reduceEqDiff, Nat.zero_add, Nat.add_one_ne_zero, true_and, and_self, forall_const, gl0, Try.sz2, Try.ag2, Try.sz24, Try.ze24, Try.pl24, Try.fd24f1]
      refine Sat.frzOwn [4] 1 _ _ rfl (by decide) (by first | (simp [lendPL, lendP, lendSlP, Heap.get]; done) | (simp only [lendPL, lendP, lendSlP, Heap.get, List.mem_singleton, List.mem_cons, List.not_mem_nil, or_false, or_true, true_or, Nat.reduceEqDiff, Nat.one_ne_zero, Nat.zero_ne_one, ↓reduceIte, and_true, true_and, List.length_map, List.length_append, List.length_cons, List.length_nil, List.length_replicate]; omega)) ?_
      simp only [lendL, lendS, lendSl, Heap.get, without, List.mem_singleton, List.mem_cons, List.not_mem_nil, or_false, or_true, true_or, List.drop_zero, List.take_length, List.take_succ_cons, List.take_zero, Nat.reduceAdd, Nat.reduceEqDiff, Nat.one_ne_zero, Nat.zero_ne_one, ↓reduceIte]
      simp only [Heap.set, Nat.reduceEqDiff, ↓reduceIte, e9]
      refine hκ.run 300 ?_
      simp (disch := omega) only [exec_succ, runR_stop, stepS, OutOK_stop, gl0]
      refine hκ.ret _ _ _ _ _ _ trivial rfl ?_
      exact .ret (by simp [SV.bnd, SV.bndL])
/-- The error of a picture that is added. -/
def addE (fs : List Fr) (en now : Int) (l : List Pt) : Int := if rightT fs en = true then (if timeB now = true ∧ en ≤ now ∧ okPic l = true then 0 else 2) else 330
theorem add_ok (fs : List Fr) (en now : Int) (l : List Pt) (hf : ∀ f ∈ fs, inFr f) (he : i64 en) (hw : i64 now) (hl : ∀ p ∈ l, inPt p) (hn : fs.length < 4000) (hln : l.length < 2 ^ 40) : Con Try.prog gl0 (fnv 12) [Tr fs en, I now, Ps l] 0 [] (Ret (.tup [Tr (if addE fs en now l = 0 then addT fs now l else []) (if addE fs en now l = 0 then now else 0), I (addE fs en now l)])) := by
  have c1 := check_ok fs en hf he (by omega)
  have c2 := with_ok fs now l hf (by omega) hln
  have c3 := ptime_ok now
  have c4 := picture_ok l hl (by omega)
  have hal := addT_len fs now l
  suffices H : Con Try.prog gl0 (fnv 12) [Tr fs en, I now, Ps l] 0 [] (Ret (if addE fs en now l = 0 then .tup [Tr (addT fs now l) now, I 0] else .tup [noT, I (addE fs en now l)])) by
    by_cases h : addE fs en now l = 0
    · rw [if_pos h] at H; rw [if_pos h, if_pos h, h]; exact H
    · rw [if_neg h] at H; rw [if_neg h, if_neg h]; exact Con.repR (fun _ => Rel.tupMap (RelL.mapHead (Rel.aggMap nil1))) H
  refine Con.of Try.ok12 (nt := 41) (res := [.cell 6 24, .tmp 7]) Try.mixed Try.func12 rfl rfl rfl rfl fun κ xc hκ => hκ.run 300 ?_
  simp (disch := omega) only [exec_succ, runR_next, runR_call, stepS, runOp, toSR, sop, rOf, rNew, sAlloc, sAlloc0, sBox, isArr, sLoadIn, sLoad, ev, evs, svs, Env.get, Heap.get, takeN, cut, aggOf, cellsS, envOf, OutOK_call, Bool.false_eq_true, List.size_toArray, List.length_cons, List.length_nil, List.range, List.range.loop, List.getElem?_toArray, List.getElem?_cons_succ, List.getElem?_cons_zero, List.map_cons, List.map_nil, ↓reduceIte, Nat.reduceAdd, Nat.reduceLT, Nat.reduceEqDiff, Nat.zero_add, Nat.add_one_ne_zero, gl0, Try.sz24, Try.ag24, Try.ze24, Try.ar24]
  by_cases h1 : rightT fs en = true
  case neg =>
    rw [if_neg h1] at c1
    have e1 : addE fs en now l = 330 := by rw [addE, if_neg h1]
    rw [e1, if_neg (by decide)] at hκ
    refine Does.ret hκ.hP hκ.hgl (c1) ⟨trivial, by simp [SV.bnd, SV.bndL], by first | (simp [SV.bnd, SV.bndL]; done) | assumption⟩ ?_
    refine hκ.run 300 ?_
    simp (disch := omega) only [exec_succ, runR_next, runR_need, runR_fork_true, runR_stop, stepS, runOp, condS, toSR, sop, rOf, sStoreIn, sStore, sInt, sBin, fillS, evps, sBuild, ev, svs, Env.get, Heap.get, Heap.set, over, paste, cellsS, one, ones, setO, Value.oneCell', OutOK_need, OutOK_stop, undefS, undef, List.size_toArray, List.length_cons, List.length_nil, List.range, List.range.loop, List.getElem?_toArray, List.getElem?_cons_succ, List.getElem?_cons_zero, List.map_cons, List.map_nil, ↓reduceIte, Nat.reduceAdd, Nat.reduceLT, Nat.reduceEqDiff, Nat.zero_add, Int.reduceEq, Bool.not_false, decide_false, true_and, and_self, forall_const, gl0, Try.sz24, Try.ze24, Try.pl24]
    refine hκ.ret _ _ _ _ _ _ trivial rfl ?_
    exact .ret (by simp [SV.bnd, SV.bndL])
  rw [if_pos h1] at c1
  refine Does.ret hκ.hP hκ.hgl (c1) ⟨trivial, by simp [SV.bnd, SV.bndL], by first | (simp [SV.bnd, SV.bndL]; done) | assumption⟩ ?_
  refine hκ.run 300 ?_
  simp (disch := omega) only [exec_succ, runR_next, runR_fork_false, runR_call, stepS, runOp, condS, toSR, sop, rOf, sInt, sBin, ev, evs, Env.get, setO, OutOK_call, List.size_toArray, List.length_cons, List.length_nil, List.range, List.range.loop, List.getElem?_toArray, List.getElem?_cons_succ, List.getElem?_cons_zero, ↓reduceIte, Nat.reduceAdd, Nat.reduceLT, Nat.reduceEqDiff, Nat.zero_add, Bool.not_true, decide_true, reduceCtorEq, gl0]
  refine Does.ret hκ.hP hκ.hgl (c3) ⟨trivial, by simp [SV.bnd, SV.bndL], by first | (simp [SV.bnd, SV.bndL]; done) | assumption⟩ ?_
  cases h2 : timeB now
  · have e1 : addE fs en now l = 2 := by rw [addE, if_pos h1, if_neg (by rw [h2]; simp)]
    rw [e1, if_neg (by decide)] at hκ
    refine hκ.run 300 ?_
    simp (disch := omega) only [exec_succ, runR_next, runR_need, runR_fork_true, runR_guard_tf, runR_stop, stepS, runOp, guardS, condS, toSR, sop, rOf, sPick, sLoad, sStoreIn, sStore, sBin, sUn, sFieldAddr, fillS, evps, sBuild, ev, evs, svs, Env.get, Heap.get, Heap.set, over, paste, cellsS, one, ones, setO, Value.oneCell', OutOK_need, OutOK_stop, undefS, undef, List.size_toArray, List.length_cons, List.length_nil, List.range, List.range.loop, List.getElem?_toArray, List.getElem?_cons_succ, List.getElem?_cons_zero, List.map_cons, List.map_nil, Option.bind_some, ↓reduceIte, Nat.reduceAdd, Nat.reduceLT, Nat.reduceEqDiff, Nat.zero_add, Nat.add_one_ne_zero, Bool.not_false, true_and, and_self, forall_const, reduceCtorEq, gl0, Try.sz24, Try.ze24, Try.pl24, Try.fd24f1]
    refine hκ.ret _ _ _ _ _ _ trivial rfl ?_
    exact .ret (by simp [SV.bnd, SV.bndL])
  by_cases h3 : now < en
  · have e1 : addE fs en now l = 2 := by rw [addE, if_pos h1, if_neg (fun h => by omega)]
    rw [e1, if_neg (by decide)] at hκ
    have e3 : (now < en) = True := by first | (simp only [eq_iff_iff, iff_true]; first | assumption | omega) | (simp; omega)
    refine hκ.run 300 ?_
    simp (disch := omega) only [exec_succ, runR_next, runR_need, runR_fork_true, runR_guard_ff, runR_guard_tf, runR_stop, stepS, runOp, guardS, condS, toSR, sop, rOf, sPick, sLoadIn, sLoad, sStoreIn, sStore, sInt, sBin, sUn, sFieldAddr, fillS, evps, sBuild, ev, evs, svs, Env.get, Heap.get, Heap.set, takeN, cut, over, paste, aggOf, cellsS, one, ones, setO, Value.oneCell', OutOK_need, OutOK_stop, undefS, undef, List.size_toArray, List.length_cons, List.length_nil, List.range, List.range.loop, List.getElem?_toArray, List.getElem?_cons_succ, List.getElem?_cons_zero, List.map_cons, List.map_nil, Option.bind_some, ↓reduceIte, Nat.reduceAdd, Nat.reduceLT, Nat.reduceEqDiff, Nat.zero_add, Nat.add_one_ne_zero, Bool.not_true, Bool.not_false, decide_true, true_and, and_self, forall_const, reduceCtorEq, gl0, Try.sz2, Try.ag2, Try.sz24, Try.ze24, Try.pl24, Try.fd24f1, e3]
    refine hκ.ret _ _ _ _ _ _ trivial rfl ?_
    exact .ret (by simp [SV.bnd, SV.bndL])
  have e3 : (now < en) = False := by first | (simp only [eq_iff_iff, iff_false]; first | assumption | omega) | (simp; omega)
  refine hκ.run 300 ?_
  simp (disch := omega) only [exec_succ, runR_next, runR_guard_ff, runR_call, stepS, runOp, guardS, toSR, sop, rOf, sPick, sLoadIn, sLoad, sInt, sBin, sUn, sFieldAddr, ev, evs, Env.get, Heap.get, takeN, cut, aggOf, setO, OutOK_call, undefS, undef, List.getElem?_toArray, List.getElem?_cons_succ, List.getElem?_cons_zero, Option.bind_some, ↓reduceIte, Nat.reduceLT, Nat.reduceEqDiff, Nat.zero_add, Nat.add_one_ne_zero, Bool.not_true, Bool.not_false, decide_false, and_self, reduceCtorEq, gl0, Try.sz2, Try.ag2, Try.fd24f1, e3]
  refine Does.ret hκ.hP hκ.hgl (c4) ⟨trivial, by simp [SV.bnd, SV.bndL], by first | (simp [SV.bnd, SV.bndL]; done) | assumption⟩ ?_
  cases h4 : okPic l
  · have e1 : addE fs en now l = 2 := by rw [addE, if_pos h1, if_neg (by rw [h4]; simp)]
    rw [e1, if_neg (by decide)] at hκ
    refine hκ.run 300 ?_
    simp (disch := omega) only [exec_succ, runR_next, runR_need, runR_fork_true, runR_guard_ff, runR_stop, stepS, runOp, guardS, condS, toSR, sop, rOf, sPick, sStoreIn, sStore, sUn, fillS, evps, sBuild, ev, svs, Env.get, Heap.get, Heap.set, over, paste, cellsS, one, ones, setO, Value.oneCell', OutOK_need, OutOK_stop, undefS, undef, List.size_toArray, List.length_cons, List.length_nil, List.range, List.range.loop, List.getElem?_toArray, List.getElem?_cons_succ, List.getElem?_cons_zero, List.map_cons, List.map_nil, Option.bind_some, ↓reduceIte, Nat.reduceAdd, Nat.reduceLT, Nat.reduceEqDiff, Nat.zero_add, Bool.not_false, true_and, and_self, forall_const, gl0, Try.sz24, Try.ze24, Try.pl24]
    refine hκ.ret _ _ _ _ _ _ trivial rfl ?_
    exact .ret (by simp [SV.bnd, SV.bndL])
  have e1 : addE fs en now l = 0 := by rw [addE, if_pos h1, if_pos ⟨h2, by omega, h4⟩]
  rw [e1, if_pos rfl] at hκ
  refine hκ.run 300 ?_
  simp (disch := omega) only [exec_succ, runR_next, runR_need, runR_fork_false, runR_guard_ff, runR_call, stepS, runOp, guardS, condS, toSR, sop, rOf, sPick, sLoadIn, sLoad, sStoreIn, sStore, sUn, sFieldAddr, ev, evs, svs, Env.get, Heap.get, Heap.set, takeN, cut, over, paste, aggOf, cellsS, one, ones, setO, Value.cells, Value.oneCell', OutOK_need, OutOK_call, undefS, undef, List.size_toArray, List.length_cons, List.length_nil, List.range, List.range.loop, List.getElem?_toArray, List.getElem?_cons_succ, List.getElem?_cons_zero, List.map_cons, List.map_nil, Option.bind_some, List.toList_toArray, ↓reduceIte, Nat.reduceAdd, Nat.reduceLT, Nat.reduceEqDiff, Nat.zero_add, Nat.add_one_ne_zero, Bool.not_true, Bool.not_false, true_and, and_self, forall_const, reduceCtorEq, gl0, Try.sz2, Try.sz24, Try.ag24, Try.fd24f1]
  refine Does.ret hκ.hP hκ.hgl (c2) ⟨trivial, by simp [SV.bnd, SV.bndL], by first | (simp [SV.bnd, SV.bndL]; done) | assumption⟩ ?_
  have e5 : ((4000 : Int) < ((addT fs now l).length : Int)) = False := by first | (simp only [eq_iff_iff, iff_false]; first | assumption | omega) | (simp; omega)
  refine hκ.run 300 ?_
  simp (disch := omega) only [sBuiltin, exec_succ, runR_next, runR_need, runR_fork_false, runR_stop, stepS, runOp, condS, toSR, sop, rOf, rNew, sAlloc, sAlloc0, sLoadIn, sLoad, sStoreIn, sStore, sInt, sBin, sFieldAddr, sLen, ev, svs, Env.get, Heap.get, Heap.set, takeN, cut, over, paste, aggOf, cellsS, one, ones, setO, Value.oneCell', OutOK_need, OutOK_stop, undefS, undef, List.size_toArray, List.length_cons, List.length_nil, List.length_map, List.range, List.range.loop, List.getElem?_toArray, List.getElem?_cons_succ, List.getElem?_cons_zero, List.map_cons, List.map_nil, ↓reduceIte, Nat.reduceAdd, Nat.reduceLT, Nat.reduceEqDiff, Nat.zero_add, Nat.add_zero, Nat.add_one_ne_zero, decide_false, true_and, and_self, forall_const, gl0, Try.underlying22, Try.sz22, Try.ag22, Try.sz24, Try.ag24, Try.ze24, Try.ar24, Try.fd24f0, e5]
  refine hκ.ret _ _ _ _ _ _ trivial rfl ?_
  exact .ret (by simp [SV.bnd, SV.bndL])
end Go.Proofs.Ytcpanpkhdcifoaa
