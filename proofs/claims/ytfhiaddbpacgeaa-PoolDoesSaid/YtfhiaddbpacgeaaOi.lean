/- Walk of pool.Join. No condition. -/
import Derived.Test.YtfhiaddbpacgeaaOg
namespace Go.Proofs.Ytfhiaddbpacgeaa
open Go Go.Sy
set_option maxRecDepth 100000
set_option linter.unusedSimpArgs false
set_option linter.unusedVariables false

def joinE (xs : List Nat) (p q : Int) : Int :=
  if okP xs = false then 180 else if (inR xs p && inR xs q) = false then 4 else if p = q then 2 else 0
def joinX (xs : List Nat) (p q : Int) : List Nat := (xs.set q.toNat (xs.getD q.toNat default ||| xs.getD p.toNat default)).take p.toNat ++ (xs.set q.toNat (xs.getD q.toNat default ||| xs.getD p.toNat default)).drop (p.toNat + 1)
theorem join_ok (xs : List Nat) (p q : Int) (hx : u32s xs) (hn : xs.length < 2 ^ 44) : Con Try.prog gl0 (fnv 30) [Po xs, I p, I q] 0 []
    (RetX 31 1 (joinE xs p q) (fun r => .tup [.agg [r], I 0]) ((joinX xs p q).map eS) (.tup [noP, I (joinE xs p q)])) := by
  refine Con.of Try.ok30 (nt := 16) (res := [.cell 6 26, .tmp 7]) Try.mixed Try.func30 rfl rfl rfl rfl fun κ xc hκ => hκ.run 300 ?_
  simp (disch := omega) only [exec_succ, runR_next, runR_need, runR_call, stepS, runOp, toSR, sop, rOf, rNew, sAlloc, sAlloc0, sBox, isArr, sLoadIn, sLoad, sMakeFunc, sliceT, obind, fillS, evps, repeatL, sBuildSlice, chunk, ev, evs, svs, Env.get, Heap.get, takeN, cut, over, paste, aggOf, cellsS, one, ones, idFree, idFrees, envOf, Value.cells, Value.oneCell', OutOK_need, OutOK_call, Bool.and_true, List.drop_zero, List.drop_succ_cons, List.take_zero, List.take_succ_cons, List.take_nil, Bool.false_eq_true, List.size_toArray, List.length_cons, List.length_nil, List.range, List.range.loop, List.getElem?_toArray, List.getElem?_cons_succ, List.getElem?_cons_zero, List.map_cons, List.map_nil, List.append_nil, List.cons_append, List.nil_append, List.toList_toArray, ↓reduceIte, Nat.reduceAdd, Nat.reduceLT, Nat.reduceLeDiff, Nat.reduceEqDiff, Nat.zero_add, Nat.mul_one, Nat.add_one_ne_zero, true_and, and_self, forall_const, reduceCtorEq, gl0, Try.sz3, Try.ag3, Try.ze3, Try.underlying22, Try.sz26, Try.ag26, Try.ze26, Try.ar26]
  (repeat (refine ⟨by first | omega | (refine ⟨?_, ?_⟩ <;> omega) | trivial | (simp; done) | decide +kernel, fun _ => ?_⟩))
  refine Does.inl hκ.hP hκ.hgl Try.ok45 (nt := 33) (res := [.cell 6 26, .tmp 7]) Try.mixed Try.func45 rfl rfl rfl rfl fun κ_h1 x_h1 h1 => h1.run 300 ?_
  simp (disch := omega) only [exec_succ, runR_next, runR_call, stepS, runOp, toSR, sop, rOf, rNew, sAlloc, sAlloc0, sBox, isArr, sLoadIn, sLoad, ev, evs, svs, Env.get, Heap.get, takeN, cut, aggOf, cellsS, envOf, OutOK_call, Bool.false_eq_true, List.size_toArray, List.length_cons, List.length_nil, List.range, List.range.loop, List.getElem?_toArray, List.getElem?_cons_succ, List.getElem?_cons_zero, List.map_cons, List.map_nil, ↓reduceIte, Nat.reduceAdd, Nat.reduceLT, Nat.reduceEqDiff, Nat.zero_add, gl0, Try.sz26, Try.ag26, Try.ze26, Try.ar26]
  refine Does.ret h1.hP h1.hgl (pchk_ok xs hx (by omega)) ⟨trivial, by simp [SV.bnd, SV.bndL], by first | (simp [SV.bnd, SV.bndL]; done) | assumption⟩ ?_
  by_cases hk : okP xs = true
  case neg =>
    rw [if_neg hk]
    have he : joinE xs p q = 180 := by simp [joinE, hk]
    refine h1.run 300 ?_
    simp (disch := omega) only [exec_succ, runR_next, runR_need, runR_fork_true, runR_stop, stepS, runOp, condS, toSR, sop, rOf, sStoreIn, sStore, sInt, sBin, fillS, evps, sBuild, ev, svs, Env.get, Heap.get, Heap.set, over, paste, cellsS, one, ones, setO, Value.oneCell', OutOK_need, OutOK_stop, undefS, undef, List.size_toArray, List.length_cons, List.length_nil, List.range, List.range.loop, List.getElem?_toArray, List.getElem?_cons_succ, List.getElem?_cons_zero, List.map_cons, List.map_nil, ↓reduceIte, Nat.reduceAdd, Nat.reduceLT, Nat.reduceEqDiff, Nat.zero_add, Int.reduceEq, Bool.not_false, decide_false, true_and, and_self, forall_const, gl0, Try.sz26, Try.ze26, Try.pl26]
    refine h1.ret _ _ _ _ _ _ trivial rfl ?_
    refine hκ.run 300 ?_
    simp (disch := omega) only [exec_succ, runR_next, runR_need, runR_stop, stepS, runOp, toSR, sop, rOf, sStoreIn, sStore, sExtract, ev, Env.get, Heap.get, Heap.set, over, paste, cellsS, one, ones, setO, Value.oneCell', OutOK_need, OutOK_stop, undefS, undef, dropL, resV, List.length_cons, List.length_nil, List.getElem?_toArray, List.getElem?_cons_succ, List.getElem?_cons_zero, ↓reduceIte, Nat.reduceLT, Nat.reduceEqDiff, Nat.zero_add, true_and, and_self, forall_const, gl0, Try.sz26]
    refine hκ.ret _ _ _ _ _ _ trivial rfl ?_
    rw [RetX.no (by omega), he]
    exact .ret (by simp [SV.bnd, SV.bndL])
  rw [if_pos hk]
  refine h1.run 300 ?_
  simp (disch := omega) only [exec_succ, runR_next, runR_fork_false, runR_call, stepS, runOp, condS, toSR, sop, rOf, sLoadIn, sLoad, sInt, sBin, ev, evs, Env.get, Heap.get, takeN, cut, aggOf, setO, OutOK_call, List.size_toArray, List.length_cons, List.length_nil, List.range, List.range.loop, List.getElem?_toArray, List.getElem?_cons_succ, List.getElem?_cons_zero, ↓reduceIte, Nat.reduceAdd, Nat.reduceLT, Nat.reduceEqDiff, Nat.zero_add, Bool.not_true, decide_true, reduceCtorEq, gl0, Try.sz26, Try.ag26]
  refine Does.frz [4] ⟨trivial, rfl⟩ (by first | (simp [lendPL, lendP, lendSlP, Heap.get]; done) | (simp only [lendPL, lendP, lendSlP, Heap.get, List.mem_singleton, List.mem_cons, List.not_mem_nil, or_false, or_true, true_or, Nat.reduceEqDiff, Nat.one_ne_zero, Nat.zero_ne_one, ↓reduceIte, and_true, true_and, List.length_map, List.length_append, List.length_cons, List.length_nil, List.length_replicate]; omega)) ?_
  simp only [lendL, lendS, lendSl, Heap.get, without, List.mem_singleton, List.mem_cons, List.not_mem_nil, or_false, or_true, true_or, List.drop_zero, List.take_length, List.take_succ_cons, List.take_zero, Nat.reduceAdd, Nat.reduceEqDiff, Nat.one_ne_zero, Nat.zero_ne_one, ↓reduceIte]
  refine Does.ret h1.hP h1.hgl (inp_ok xs [p, q] (by simp)) ⟨trivial, by simp [SV.bnd, SV.bndL], by first | (simp [SV.bnd, SV.bndL]; done) | assumption⟩ ?_
  rw [show ([p, q].all (inR xs)) = (inR xs p && inR xs q) by simp]
  cases hr : (inR xs p && inR xs q)
  · have he : joinE xs p q = 4 := by simp only [joinE, hk, hr, Bool.true_eq_false, if_false, if_true]
    refine h1.run 300 ?_
    simp (disch := omega) only [exec_succ, runR_next, runR_need, runR_fork_true, runR_stop, stepS, runOp, condS, toSR, sop, rOf, sStoreIn, sStore, sUn, fillS, evps, sBuild, ev, svs, Env.get, Heap.get, Heap.set, over, paste, cellsS, one, ones, setO, Value.oneCell', OutOK_need, OutOK_stop, undefS, undef, List.size_toArray, List.length_cons, List.length_nil, List.range, List.range.loop, List.getElem?_toArray, List.getElem?_cons_succ, List.getElem?_cons_zero, List.map_cons, List.map_nil, ↓reduceIte, Nat.reduceAdd, Nat.reduceLT, Nat.reduceEqDiff, Nat.zero_add, Bool.not_false, true_and, and_self, forall_const, gl0, Try.sz26, Try.ze26, Try.pl26]
    refine h1.ret _ _ _ _ _ _ trivial rfl ?_
    refine hκ.run 300 ?_
    simp (disch := omega) only [exec_succ, runR_next, runR_need, runR_stop, stepS, runOp, toSR, sop, rOf, sStoreIn, sStore, sExtract, ev, Env.get, Heap.get, Heap.set, over, paste, cellsS, one, ones, setO, Value.oneCell', OutOK_need, OutOK_stop, undefS, undef, dropL, resV, List.length_cons, List.length_nil, List.getElem?_toArray, List.getElem?_cons_succ, List.getElem?_cons_zero, ↓reduceIte, Nat.reduceLT, Nat.reduceEqDiff, Nat.zero_add, true_and, and_self, forall_const, gl0, Try.sz26]
    refine hκ.ret _ _ _ _ _ _ trivial rfl ?_
    rw [RetX.no (by omega), he]
    exact .ret (by simp [SV.bnd, SV.bndL])
  · rw [Bool.and_eq_true] at hr
    obtain ⟨g1, g2⟩ : 0 ≤ p ∧ p < xs.length := by simpa [inR] using hr.1
    obtain ⟨g3, g4⟩ : 0 ≤ q ∧ q < xs.length := by simpa [inR] using hr.2
    have hr := Bool.and_eq_true _ _ ▸ hr
    obtain ⟨i, rfl⟩ := Int.eq_ofNat_of_zero_le g1
    obtain ⟨m, rfl⟩ := Int.eq_ofNat_of_zero_le g3
    have g2 : i < xs.length := by omega
    have g4 : m < xs.length := by omega
    have hlen := ((okP_iff xs).1 hk).1
    have hi := hx _ (getD_mem g2)
    have hm := hx _ (getD_mem g4)
    refine h1.run 300 ?_
    simp (disch := omega) only [exec_succ, runR_next, runR_fork_false, runR_call, stepS, runOp, condS, toSR, sop, rOf, sLoadIn, sLoad, sUn, sFieldAddr, ev, evs, Env.get, Heap.get, takeN, cut, aggOf, setO, OutOK_call, List.size_toArray, List.length_cons, List.length_nil, List.range, List.range.loop, List.getElem?_toArray, List.getElem?_cons_succ, List.getElem?_cons_zero, ↓reduceIte, Nat.reduceAdd, Nat.reduceLT, Nat.reduceEqDiff, Nat.zero_add, Nat.add_zero, Nat.add_one_ne_zero, Bool.not_true, gl0, Try.sz24, Try.ag24, Try.fd26f0]
    refine Does.row h1.hP h1.hgl (clone_ok xs (by omega) hn) ⟨trivial, by simp [SV.bnd, SV.bndL]⟩ fun cap hcap => ?_
    rw [List.length_map] at hcap ⊢
    refine h1.run 300 ?_
    simp (disch := omega) only [exec_succ, runR_next, runR_need, runR_call, stepS, runOp, toSR, sop, rOf, rNew, sAlloc, sAlloc0, isArr, sStoreIn, sStore, fillS, evps, sBuild, ev, evs, svs, Env.get, Heap.get, Heap.set, over, paste, cellsS, one, ones, setO, OutOK_need, OutOK_call, undefS, undef, List.size_toArray, List.length_cons, List.length_nil, List.range, List.range.loop, List.getElem?_toArray, List.getElem?_cons_succ, List.getElem?_cons_zero, List.map_cons, List.map_nil, ↓reduceIte, Nat.reduceAdd, Nat.reduceLT, Nat.reduceEqDiff, Nat.zero_add, true_and, and_self, forall_const, reduceCtorEq, gl0, Try.sz26, Try.ze26, Try.pl26, Try.ar26]
    refine Does.inlc h1.hP h1.hgl Try.ok48 (nt := 35) (res := [.tmp 4]) Try.mixed Try.func48 rfl rfl rfl rfl fun κ_h2 x_h2 h2 => h2.run 300 ?_
    simp (disch := omega) only [exec_succ, runR_next, stepS, runOp, condS, toSR, sop, rOf, sLoadIn, sLoad, sInt, sBin, ev, Env.get, Heap.get, takeN, cut, aggOf, envOf, List.size_toArray, List.length_cons, List.length_nil, List.range, List.range.loop, List.getElem?_toArray, List.getElem?_cons_succ, List.getElem?_cons_zero, List.cons_append, List.nil_append, ↓reduceIte, Nat.reduceAdd, Nat.reduceLT, Nat.reduceEqDiff, Nat.zero_add, reduceCtorEq, gl0, Try.sz3, Try.ag3]
    by_cases s1 : i = m
    case pos =>
      have e1 : ((i : Int) = m) = True := by simp only [eq_iff_iff, iff_true]; omega
      have he : joinE xs i m = 2 := by
        simp only [joinE, hk, Bool.true_eq_false, if_false]
        rw [if_neg (by simp [inR]; omega), if_pos (by omega)]
      simp (disch := omega) only [exec_succ, runR_next, runR_fork_true, runR_stop, stepS, runOp, toSR, sop, rOf, ev, OutOK_stop, List.size_toArray, List.length_cons, List.length_nil, List.range, List.range.loop, List.getElem?_toArray, List.getElem?_cons_zero, ↓reduceIte, Nat.reduceLT, Nat.zero_add, decide_true, e1]
      refine h2.ret _ _ _ _ _ _ trivial rfl ?_
      refine h1.run 300 ?_
      simp (disch := omega) only [exec_succ, runR_next, runR_need, runR_fork_true, runR_stop, stepS, runOp, condS, toSR, sop, rOf, sStoreIn, sStore, sInt, sBin, fillS, evps, sBuild, ev, svs, Env.get, Heap.get, Heap.set, over, paste, cellsS, one, ones, setO, Value.oneCell', OutOK_need, OutOK_stop, undefS, undef, dropL, resV, List.size_toArray, List.length_cons, List.length_nil, List.range, List.range.loop, List.getElem?_toArray, List.getElem?_cons_succ, List.getElem?_cons_zero, List.map_cons, List.map_nil, ↓reduceIte, Nat.reduceAdd, Nat.reduceLT, Nat.reduceEqDiff, Nat.zero_add, Int.reduceEq, Bool.not_false, decide_false, true_and, and_self, forall_const, gl0, Try.sz26, Try.ze26, Try.pl26]
      refine h1.ret _ _ _ _ _ _ trivial rfl ?_
      refine hκ.run 300 ?_
      simp (disch := omega) only [exec_succ, runR_next, runR_need, runR_stop, stepS, runOp, toSR, sop, rOf, sStoreIn, sStore, sExtract, ev, Env.get, Heap.get, Heap.set, over, paste, cellsS, one, ones, setO, Value.oneCell', OutOK_need, OutOK_stop, undefS, undef, dropL, resV, List.length_cons, List.length_nil, List.getElem?_toArray, List.getElem?_cons_succ, List.getElem?_cons_zero, ↓reduceIte, Nat.reduceLT, Nat.reduceEqDiff, Nat.zero_add, true_and, and_self, forall_const, gl0, Try.sz26]
      refine hκ.ret _ _ _ _ _ _ trivial rfl ?_
      rw [RetX.no (by omega), he]
      exact .ret (by simp [SV.bnd, SV.bndL])
    have e1 : ((i : Int) = m) = False := by simp only [eq_iff_iff, iff_false]; omega
    have he : joinE xs i m = 0 := by
      simp only [joinE, hk, Bool.true_eq_false, if_false]
      rw [if_neg (by simp [inR]; omega), if_neg (by omega)]
    have oo := or32 hm hi
    simp (disch := omega) only [allQuiet, quietOp, drawS, exec_succ, runR_next, runR_fork_false, runR_stop, stepS, OutOK_stop, Option.isNone_none, Bool.and_true, Bool.and_false, decide_false, e1]
    refine h2.draw (.q 0 (.q 1 (.q 2 (.q 3 (.q 4 (.q 5 (.q 6 (.q 7 (.q 8 (.q 9 (.q 10 (.q 11 (.q 12 (.q 13 (.q 14 (.q 15 (.l 16 [] (.fin)))))))))))))))))) [0, 1, 2, 3, 4, 5, 6, 7, 8, 9, 10, 11, 12, 13, 14, 15] (by kernel_rfl) (by kernel_rfl) rfl ?_
    simp (disch := omega) only [sop, rOf, sLoadIn, sLoad, sStoreIn, sStore, sNil, sInt, sBin, sFieldAddr, sIndexAddr, elemT, obind, ev, svs, Env.get, Heap.get, Heap.set, takeN, cut, over, paste, aggOf, cellsS, one, ones, idFree, idFrees, setO, Value.cells, Value.oneCell', drawP_fin, drawP_q, drawP_l, dnext, dq, dqn, dl, guardP, R1Q, dstOK, loudP, again, R1OK, undefS, undef, Bool.and_true, List.length_cons, List.length_nil, List.length_map, List.getElem?_toArray, List.getElem?_cons_succ, List.getElem?_cons_zero, List.map_cons, List.map_nil, List.toList_toArray, ↓reduceIte, Nat.reduceLT, Nat.reduceEqDiff, Nat.zero_add, Nat.add_zero, Nat.add_one_ne_zero, Int.toNat_natCast, and_true, true_and, and_self, reduceCtorEq, getD_map, gl0, Try.sz3, Try.ag3, Try.underlying24, Try.sz24, Try.ag24, Try.fd26f0, Try.sz31, Try.ag31, oo, setS, eS]
    (repeat (refine ⟨by first | omega | (refine ⟨?_, ?_⟩ <;> omega) | trivial | (simp; done) | decide +kernel, fun _ => ?_⟩))
    generalize hy : xs.set m (xs.getD m default ||| xs.getD i default) = ys
    have hyl : ys.length = xs.length := by rw [← hy]; simp
    refine h2.runD 300 ?_
    simp (disch := omega) only [runR_next, stepS, OutOK_stop, halt, isDraw, drawC, execD_succ, gl0]
    refine h2.draw (.q 0 (.q 1 (.q 2 (.q 3 (.q 4 (.q 5 (.q 6 (.q 7 (.l 8 [6] (.q 9 (.q 10 (.l 11 [] (.fin))))))))))))) [0, 1, 2, 3, 4, 5, 6, 7, 9, 10] (by kernel_rfl) (by kernel_rfl) rfl ?_
    simp (disch := omega) only [sop, rOf, sLoadIn, sLoad, sNil, sInt, sBin, sFieldAddr, ev, evs, Env.get, Heap.get, takeN, cut, aggOf, setO, drawP_q, drawP_l, dq, dqn, dl, guardP, R1Q, dstOK, loudP, List.getElem?_toArray, List.getElem?_cons_succ, List.getElem?_cons_zero, ↓reduceIte, Nat.reduceLT, Nat.reduceEqDiff, Nat.add_zero, Nat.add_one_ne_zero, true_and, reduceCtorEq, wrap_i64, gl0, Try.sz3, Try.ag3, Try.sz24, Try.ag24, Try.fd26f0]
    refine DCall.of (Does.inl h2.hP h2.hgl Try.ok49 (nt := 33) (res := [.tmp 6]) Try.mixed Try.func49 rfl rfl rfl rfl fun κ_h3 x_h3 h3 => h3.runD 300 ?_)
    have e2 : ((i : Int) = (i : Int) + 1) = False := by simp only [eq_iff_iff, iff_false]; omega
    simp (disch := omega) only [sBuiltin, runR_next, runR_need, runR_fork_false, stepS, runOp, condS, toSR, sop, rOf, sInt, sBin, sLen, optI, sSlice, elemT, obind, ev, Env.get, envOf, OutOK_need, OutOK_stop, halt, isDraw, drawC, execD_succ, List.size_toArray, List.length_cons, List.length_nil, List.range, List.range.loop, List.getElem?_toArray, List.getElem?_cons_succ, List.getElem?_cons_zero, Option.map_some, Option.getD_some, Option.isSome_some, ↓reduceIte, Nat.reduceAdd, Nat.reduceLT, Nat.reduceEqDiff, Nat.zero_add, Nat.add_one_ne_zero, Int.toNat_natCast, decide_false, and_true, forall_const, reduceCtorEq, gl0, Try.underlying24, Try.sz31, e2]
    (repeat (refine ⟨by first | omega | (refine ⟨?_, ?_⟩ <;> omega) | trivial | (simp; done) | decide +kernel, fun _ => ?_⟩))
    have etn : ((i : Int) + 1).toNat = i + 1 := by omega
    have etk : List.take (xs.length - (i + 1)) (List.drop (i + 1) (List.map eS ys)) = List.map eS (ys.drop (i + 1)) := by
      rw [← List.map_drop]; exact List.take_of_length_le (by simp; omega)
    obtain ⟨z, hz⟩ : ∃ z, xs.length - (i + 1) = z := ⟨_, rfl⟩
    have hdl : (ys.drop (i + 1)).length = z := by rw [List.length_drop]; omega
    have ezs : List.take i (List.map eS ys) ++ List.map eS (ys.drop (i + 1)) = (ys.take i ++ ys.drop (i + 1)).map eS := by
      rw [List.map_append, List.map_take]
    have hzl : (ys.take i ++ ys.drop (i + 1)).length = i + z := by rw [List.length_append, hdl, List.length_take]; omega
    rw [hz] at etk
    refine h3.draw (.q 0 (.q 1 (.q 2 (.q 3 (.q 4 (.q 5 (.c 6 [] (.l 7 [] (.fin))))))))) [0, 1, 2, 3, 4, 5] (by kernel_rfl) (by kernel_rfl) rfl ?_
    simp (disch := omega) only [srcS, appArgS, sop, rOf, optI, sSlice, elemT, sliceT, obind, ev, Env.get, Heap.get, Heap.drop, setO, drawP_fin, drawP_q, drawP_l, dnext, dq, dqn, dl, guardP, R1Q, dstOK, loudP, again, R1OK, sAppendToC, sAppendC, sBuiltinC, sopC, loudC, dlc, drawP_c, Bool.false_eq_true, List.length_cons, List.length_nil, List.length_map, List.getElem?_toArray, List.getElem?_cons_succ, List.getElem?_cons_zero, Option.map_some, Option.map_none, Option.getD_some, Option.getD_none, Option.isSome_some, Option.isSome_none, ↓reduceIte, Nat.reduceAdd, Nat.reduceLT, Nat.reduceEqDiff, Nat.zero_add, Nat.add_zero, Nat.sub_zero, Nat.add_one_ne_zero, Int.reduceToNat, Int.reduceLE, Int.toNat_natCast, ne_eq, and_true, true_and, implies_true, reduceCtorEq, imp_self, gl0, Try.underlying24, Try.sz31, Try.ze31, Try.by31, etn, etk, hz, hdl, ezs]
    (repeat (refine ⟨by first | omega | (refine ⟨?_, ?_⟩ <;> omega) | trivial | (simp; done) | decide +kernel, fun _ => ?_⟩))
    intro c2
    generalize hw : ys.take i ++ ys.drop (i + 1) = ws at ezs hzl ⊢
    refine h3.runD 300 ?_
    simp (disch := omega) only [sBuiltin, runR_next, runR_need, runR_stop, stepS, runOp, toSR, sop, rOf, sLen, optI, sSlice, elemT, sliceT, obind, ev, Env.get, Heap.get, Heap.set, Value.oneCell', OutOK_need, OutOK_stop, undefS, undef, halt, isDraw, drawC, execD_succ, sClear, Int.toNat_add_nat, Int.natCast_add, List.all_cons, List.all_nil, Bool.and_true, Bool.false_eq_true, List.size_toArray, List.length_cons, List.length_nil, List.length_map, List.range, List.range.loop, List.getElem?_toArray, List.getElem?_cons_succ, List.getElem?_cons_zero, Option.map_some, Option.map_none, Option.getD_some, Option.getD_none, Option.isSome_some, Option.isSome_none, ↓reduceIte, Nat.reduceAdd, Nat.reduceLT, Nat.reduceEqDiff, Nat.zero_add, Nat.add_one_ne_zero, Int.toNat_natCast, and_true, and_self, implies_true, reduceCtorEq, gl0, Try.underlying24, Try.sz31, Try.ze31]
    (repeat (refine ⟨by first | omega | (refine ⟨?_, ?_⟩ <;> omega) | trivial | (simp; done) | decide +kernel, fun _ => ?_⟩))
    refine h3.ret _ _ _ _ _ _ trivial rfl ?_
    simp (disch := omega) only [sop, rOf, sLoadIn, sLoad, sStoreIn, sStore, sNil, sFieldAddr, ev, Env.get, Heap.get, Heap.set, takeN, cut, over, paste, aggOf, cellsS, one, ones, setO, drawP_fin, drawP_q, drawP_l, dnext, dq, dqn, dl, slotR, ag, guardP, R1Q, dstOK, loudP, again, again1, slotIs, R1OK, undefS, undef, dropL, resV, List.length_cons, List.length_nil, List.getElem?_toArray, List.getElem?_cons_succ, List.getElem?_cons_zero, ↓reduceIte, Nat.reduceLT, Nat.reduceEqDiff, Nat.zero_add, Nat.add_zero, Nat.add_one_ne_zero, true_and, and_self, forall_const, reduceCtorEq, Try.sz3, Try.ag3, Try.sz24, Try.fd26f0]
    refine h2.runD 300 ?_
    simp (disch := omega) only [runR_next, runR_stop, stepS, runOp, toSR, sop, rOf, ev, OutOK_stop, halt, isDraw, drawC, execD_succ, List.size_toArray, List.length_cons, List.length_nil, List.range, List.range.loop, List.getElem?_toArray, List.getElem?_cons_zero, ↓reduceIte, Nat.reduceLT, Nat.zero_add, gl0]
    refine h2.ret _ _ _ _ _ _ trivial rfl ?_
    refine h1.run 300 ?_
    simp (disch := omega) only [exec_succ, runR_next, runR_need, runR_fork_false, runR_stop, stepS, runOp, condS, toSR, sop, rOf, sLoadIn, sLoad, sStoreIn, sStore, sInt, sBin, ev, Env.get, Heap.get, Heap.set, takeN, cut, over, paste, aggOf, cellsS, one, ones, setO, OutOK_need, OutOK_stop, undefS, undef, dropL, resV, List.size_toArray, List.length_cons, List.length_nil, List.range, List.range.loop, List.getElem?_toArray, List.getElem?_cons_succ, List.getElem?_cons_zero, ↓reduceIte, Nat.reduceAdd, Nat.reduceLT, Nat.reduceEqDiff, Nat.zero_add, Bool.not_true, decide_true, true_and, and_self, forall_const, gl0, Try.sz26, Try.ag26]
    refine h1.ret _ _ _ _ _ _ trivial rfl ?_
    refine hκ.run 300 ?_
    simp (disch := omega) only [exec_succ, runR_next, runR_need, runR_stop, stepS, runOp, toSR, sop, rOf, sStoreIn, sStore, sExtract, ev, Env.get, Heap.get, Heap.set, over, paste, cellsS, one, ones, setO, OutOK_need, OutOK_stop, undefS, undef, dropL, resV, List.length_cons, List.length_nil, List.getElem?_toArray, List.getElem?_cons_succ, List.getElem?_cons_zero, ↓reduceIte, Nat.reduceLT, Nat.reduceEqDiff, Nat.zero_add, true_and, and_self, forall_const, gl0, Try.sz26]
    refine hκ.ret _ _ _ _ _ _ trivial rfl ?_
    rw [RetX.ok he]
    have ew : joinX xs i m = ws := by rw [joinX, Int.toNat_natCast, Int.toNat_natCast, hy, hw]
    rw [ew]
    exact Post.rowP (pre := fun r => .tup [.agg [r], I 0]) (Pre.aggE .agg1 _) rfl (by simp [hzl])
end Go.Proofs.Ytfhiaddbpacgeaa
