/- Walk of pool.Move. No condition. -/
import Derived.Test.YtfhiaddbpacgeaaOe
namespace Go.Proofs.Ytfhiaddbpacgeaa
open Go Go.Sy
set_option maxRecDepth 100000
set_option linter.unusedSimpArgs false
set_option linter.unusedVariables false

def moveE (xs : List Nat) (c to : Int) : Int :=
  if okP xs = false then 180 else if inR xs to = false then 4 else match ofI xs c with
    | none => 2
    | some n => if (n : Int) = to then 5 else if cnt (xs.getD n default) = 1 then 181 else 0
def moveN (xs : List Nat) (c : Int) : Nat := (ofI xs c).getD 0
def moveX (xs : List Nat) (c to : Int) : List Nat := (xs.set (moveN xs c) (dif (xs.getD (moveN xs c) default) (2 ^ c.toNat))).set to.toNat (xs.getD to.toNat default ||| 2 ^ c.toNat)
theorem move_ok (xs : List Nat) (c to : Int) (hx : u32s xs) (hc : i64 c) (hn : xs.length < 2 ^ 44) : Con Try.prog gl0 (fnv 31) [Po xs, I c, I to] 0 []
    (RetX 31 1 (moveE xs c to) (fun r => .tup [.agg [r], I (moveN xs c), I 0]) ((moveX xs c to).map eS) (.tup [noP, I 0, I (moveE xs c to)])) := by
  refine Con.of Try.ok31 (nt := 23) (res := [.cell 6 26, .tmp 7, .tmp 8]) Try.mixed Try.func31 rfl rfl rfl rfl fun κ xc hκ => hκ.run 300 ?_
  simp (disch := omega) only [exec_succ, runR_next, runR_need, runR_call, stepS, runOp, toSR, sop, rOf, rNew, sAlloc, sAlloc0, sBox, isArr, sLoadIn, sLoad, sStoreIn, sStore, sMakeFunc, sliceT, obind, fillS, evps, repeatL, sBuildSlice, chunk, ev, evs, svs, Env.get, Heap.get, Heap.set, takeN, cut, over, paste, aggOf, cellsS, one, ones, idFree, idFrees, envOf, Value.cells, Value.oneCell', OutOK_need, OutOK_call, undefS, undef, Bool.and_true, List.take_succ_cons, List.take_nil, Bool.false_eq_true, List.size_toArray, List.length_cons, List.length_nil, List.range, List.range.loop, List.getElem?_toArray, List.getElem?_cons_succ, List.getElem?_cons_zero, List.map_cons, List.map_nil, List.append_nil, List.toList_toArray, ↓reduceIte, Nat.reduceAdd, Nat.reduceLT, Nat.reduceLeDiff, Nat.reduceEqDiff, Nat.zero_add, Nat.mul_one, Nat.add_one_ne_zero, true_and, and_self, forall_const, reduceCtorEq, gl0, Try.sz3, Try.ag3, Try.ze3, Try.ar3, Try.underlying22, Try.sz26, Try.ag26, Try.ze26, Try.ar26]
  (repeat (refine ⟨by first | omega | (refine ⟨?_, ?_⟩ <;> omega) | trivial | (simp; done) | decide +kernel, fun _ => ?_⟩))
  refine Does.inl hκ.hP hκ.hgl Try.ok45 (nt := 33) (res := [.cell 6 26, .tmp 7]) Try.mixed Try.func45 rfl rfl rfl rfl fun κ_h1 x_h1 h1 => h1.run 300 ?_
  simp (disch := omega) only [exec_succ, runR_next, runR_call, stepS, runOp, toSR, sop, rOf, rNew, sAlloc, sAlloc0, sBox, isArr, sLoadIn, sLoad, ev, evs, svs, Env.get, Heap.get, takeN, cut, aggOf, cellsS, envOf, OutOK_call, Bool.false_eq_true, List.size_toArray, List.length_cons, List.length_nil, List.range, List.range.loop, List.getElem?_toArray, List.getElem?_cons_succ, List.getElem?_cons_zero, List.map_cons, List.map_nil, ↓reduceIte, Nat.reduceAdd, Nat.reduceLT, Nat.reduceEqDiff, Nat.zero_add, gl0, Try.sz26, Try.ag26, Try.ze26, Try.ar26]
  refine Does.ret h1.hP h1.hgl (pchk_ok xs hx (by omega)) ⟨trivial, by simp [SV.bnd, SV.bndL], by first | (simp [SV.bnd, SV.bndL]; done) | assumption⟩ ?_
  by_cases hk : okP xs = true
  case neg =>
    rw [if_neg hk]
    have he : moveE xs c to = 180 := by simp [moveE, hk]
    refine h1.run 300 ?_
    simp (disch := omega) only [exec_succ, runR_next, runR_need, runR_fork_true, runR_stop, stepS, runOp, condS, toSR, sop, rOf, sStoreIn, sStore, sInt, sBin, fillS, evps, sBuild, ev, svs, Env.get, Heap.get, Heap.set, over, paste, cellsS, one, ones, setO, Value.oneCell', OutOK_need, OutOK_stop, undefS, undef, List.size_toArray, List.length_cons, List.length_nil, List.range, List.range.loop, List.getElem?_toArray, List.getElem?_cons_succ, List.getElem?_cons_zero, List.map_cons, List.map_nil, ↓reduceIte, Nat.reduceAdd, Nat.reduceLT, Nat.reduceEqDiff, Nat.zero_add, Int.reduceEq, Bool.not_false, decide_false, true_and, and_self, forall_const, gl0, Try.sz26, Try.ze26, Try.pl26]
    refine h1.ret _ _ _ _ _ _ trivial rfl ?_
    refine hκ.run 300 ?_
    simp (disch := omega) only [allQuiet, quietOp, drawS, exec_succ, runR_next, runR_need, runR_stop, stepS, runOp, toSR, sop, rOf, rNew, sAlloc, sAlloc0, sStoreIn, sStore, sExtract, ev, svs, Env.get, Heap.get, Heap.set, over, paste, cellsS, one, ones, setO, Value.oneCell', OutOK_need, OutOK_stop, Option.isNone_none, undefS, undef, dropL, resV, Bool.and_true, Bool.and_false, List.length_cons, List.length_nil, List.getElem?_toArray, List.getElem?_cons_succ, List.getElem?_cons_zero, List.map_cons, List.map_nil, ↓reduceIte, Nat.reduceAdd, Nat.reduceLT, Nat.reduceEqDiff, Nat.zero_add, true_and, and_self, forall_const, gl0, Try.sz26, Try.ze26, Try.ar26]
    refine hκ.draw (.q 0 (.q 1 (.q 2 (.l 3 [1] (.q 4 (.q 5 (.fin))))))) [0, 1, 2, 4, 5] (by kernel_rfl) (by kernel_rfl) rfl ?_
    simp (disch := omega) only [sop, rOf, sLoadIn, sLoad, sStoreIn, sStore, ev, Env.get, Heap.get, Heap.set, takeN, cut, over, paste, aggOf, cellsS, one, ones, setO, Value.oneCell', drawP_fin, drawP_q, drawP_l, dnext, dq, dqn, dl, slotR, ag, guardP, R1Q, dstOK, loudP, again, again1, slotIs, R1OK, undefS, undef, List.length_cons, List.length_nil, List.getElem?_toArray, List.getElem?_cons_succ, List.getElem?_cons_zero, ↓reduceIte, Nat.reduceLT, Nat.reduceEqDiff, Nat.zero_add, true_and, and_self, forall_const, gl0, Try.sz3, Try.ag3, Try.sz26, Try.ag26]
    refine hκ.run 300 ?_
    simp (disch := omega) only [exec_succ, runR_stop, stepS, OutOK_stop, gl0]
    refine hκ.ret _ _ _ _ _ _ trivial rfl ?_
    rw [RetX.no (by omega), he]
    exact .ret (by simp [SV.bnd, SV.bndL])
  rw [if_pos hk]
  refine h1.run 300 ?_
  simp (disch := omega) only [exec_succ, runR_next, runR_fork_false, runR_call, stepS, runOp, condS, toSR, sop, rOf, sLoadIn, sLoad, sInt, sBin, ev, evs, Env.get, Heap.get, takeN, cut, aggOf, setO, OutOK_call, List.size_toArray, List.length_cons, List.length_nil, List.range, List.range.loop, List.getElem?_toArray, List.getElem?_cons_succ, List.getElem?_cons_zero, ↓reduceIte, Nat.reduceAdd, Nat.reduceLT, Nat.reduceEqDiff, Nat.zero_add, Bool.not_true, decide_true, reduceCtorEq, gl0, Try.sz26, Try.ag26]
  refine Does.frz [5] ⟨trivial, rfl⟩ (by first | (simp [lendPL, lendP, lendSlP, Heap.get]; done) | (simp only [lendPL, lendP, lendSlP, Heap.get, List.mem_singleton, List.mem_cons, List.not_mem_nil, or_false, or_true, true_or, Nat.reduceEqDiff, Nat.one_ne_zero, Nat.zero_ne_one, ↓reduceIte, and_true, true_and, List.length_map, List.length_append, List.length_cons, List.length_nil, List.length_replicate]; omega)) ?_
  simp only [lendL, lendS, lendSl, Heap.get, without, List.mem_singleton, List.mem_cons, List.not_mem_nil, or_false, or_true, true_or, List.drop_zero, List.take_length, List.take_succ_cons, List.take_zero, Nat.reduceAdd, Nat.reduceEqDiff, Nat.one_ne_zero, Nat.zero_ne_one, ↓reduceIte]
  refine Does.ret h1.hP h1.hgl (inp_ok xs [to] (by simp)) ⟨trivial, by simp [SV.bnd, SV.bndL], by first | (simp [SV.bnd, SV.bndL]; done) | assumption⟩ ?_
  rw [show ([to].all (inR xs)) = inR xs to by simp]
  cases hr : inR xs to
  · have he : moveE xs c to = 4 := by simp [moveE, hk, hr]
    refine h1.run 300 ?_
    simp (disch := omega) only [exec_succ, runR_next, runR_need, runR_fork_true, runR_stop, stepS, runOp, condS, toSR, sop, rOf, sStoreIn, sStore, sUn, fillS, evps, sBuild, ev, svs, Env.get, Heap.get, Heap.set, over, paste, cellsS, one, ones, setO, Value.oneCell', OutOK_need, OutOK_stop, undefS, undef, List.size_toArray, List.length_cons, List.length_nil, List.range, List.range.loop, List.getElem?_toArray, List.getElem?_cons_succ, List.getElem?_cons_zero, List.map_cons, List.map_nil, ↓reduceIte, Nat.reduceAdd, Nat.reduceLT, Nat.reduceEqDiff, Nat.zero_add, Bool.not_false, true_and, and_self, forall_const, gl0, Try.sz26, Try.ze26, Try.pl26]
    refine h1.ret _ _ _ _ _ _ trivial rfl ?_
    refine hκ.run 300 ?_
    simp (disch := omega) only [allQuiet, quietOp, drawS, exec_succ, runR_next, runR_need, runR_stop, stepS, runOp, toSR, sop, rOf, rNew, sAlloc, sAlloc0, sStoreIn, sStore, sExtract, ev, svs, Env.get, Heap.get, Heap.set, over, paste, cellsS, one, ones, setO, Value.oneCell', OutOK_need, OutOK_stop, Option.isNone_none, undefS, undef, dropL, resV, Bool.and_true, Bool.and_false, List.length_cons, List.length_nil, List.getElem?_toArray, List.getElem?_cons_succ, List.getElem?_cons_zero, List.map_cons, List.map_nil, ↓reduceIte, Nat.reduceAdd, Nat.reduceLT, Nat.reduceEqDiff, Nat.zero_add, true_and, and_self, forall_const, gl0, Try.sz26, Try.ze26, Try.ar26]
    refine hκ.draw (.q 0 (.q 1 (.q 2 (.l 3 [1] (.q 4 (.q 5 (.fin))))))) [0, 1, 2, 4, 5] (by kernel_rfl) (by kernel_rfl) rfl ?_
    simp (disch := omega) only [sop, rOf, sLoadIn, sLoad, sStoreIn, sStore, ev, Env.get, Heap.get, Heap.set, takeN, cut, over, paste, aggOf, cellsS, one, ones, setO, Value.oneCell', drawP_fin, drawP_q, drawP_l, dnext, dq, dqn, dl, slotR, ag, guardP, R1Q, dstOK, loudP, again, again1, slotIs, R1OK, undefS, undef, List.length_cons, List.length_nil, List.getElem?_toArray, List.getElem?_cons_succ, List.getElem?_cons_zero, ↓reduceIte, Nat.reduceLT, Nat.reduceEqDiff, Nat.zero_add, true_and, and_self, forall_const, gl0, Try.sz3, Try.ag3, Try.sz26, Try.ag26]
    refine hκ.run 300 ?_
    simp (disch := omega) only [exec_succ, runR_stop, stepS, OutOK_stop, gl0]
    refine hκ.ret _ _ _ _ _ _ trivial rfl ?_
    rw [RetX.no (by omega), he]
    exact .ret (by simp [SV.bnd, SV.bndL])
  · obtain ⟨g1, g2⟩ : 0 ≤ to ∧ to < xs.length := by simpa [inR] using hr
    obtain ⟨m, rfl⟩ := Int.eq_ofNat_of_zero_le g1
    have g2 : m < xs.length := by omega
    have hlen := ((okP_iff xs).1 hk).1
    have hsm := ((okP_iff xs).1 hk).2.1
    have hown := hx _ (getD_mem g2)
    have c1 := of_ok xs c hx hc (by omega)
    refine h1.run 300 ?_
    simp (disch := omega) only [exec_succ, runR_next, runR_fork_false, runR_call, stepS, runOp, condS, toSR, sop, rOf, sLoadIn, sLoad, sUn, sFieldAddr, ev, evs, Env.get, Heap.get, takeN, cut, aggOf, setO, OutOK_call, List.size_toArray, List.length_cons, List.length_nil, List.range, List.range.loop, List.getElem?_toArray, List.getElem?_cons_succ, List.getElem?_cons_zero, ↓reduceIte, Nat.reduceAdd, Nat.reduceLT, Nat.reduceEqDiff, Nat.zero_add, Nat.add_zero, Nat.add_one_ne_zero, Bool.not_true, gl0, Try.sz24, Try.ag24, Try.fd26f0]
    refine Does.row h1.hP h1.hgl (clone_ok xs (by omega) hn) ⟨trivial, by simp [SV.bnd, SV.bndL]⟩ fun cap hcap => ?_
    rw [List.length_map] at hcap ⊢
    refine h1.run 300 ?_
    simp (disch := omega) only [exec_succ, runR_next, runR_need, runR_call, stepS, runOp, toSR, sop, rOf, rNew, sAlloc, sAlloc0, isArr, sStoreIn, sStore, fillS, evps, sBuild, ev, evs, svs, Env.get, Heap.get, Heap.set, over, paste, cellsS, one, ones, setO, OutOK_need, OutOK_call, undefS, undef, List.size_toArray, List.length_cons, List.length_nil, List.range, List.range.loop, List.getElem?_toArray, List.getElem?_cons_succ, List.getElem?_cons_zero, List.map_cons, List.map_nil, ↓reduceIte, Nat.reduceAdd, Nat.reduceLT, Nat.reduceEqDiff, Nat.zero_add, true_and, and_self, forall_const, reduceCtorEq, gl0, Try.sz26, Try.ze26, Try.pl26, Try.ar26]
    refine Does.inlc h1.hP h1.hgl Try.ok50 (nt := 67) (res := [.tmp 5]) Try.mixed Try.func50 rfl rfl rfl rfl fun κ_h2 x_h2 h2 => h2.run 300 ?_
    simp (disch := omega) only [allQuiet, quietOp, drawS, exec_succ, runR_next, runR_stop, stepS, runOp, toSR, sop, rOf, ev, envOf, OutOK_stop, Option.isNone_none, Bool.and_true, Bool.and_false, List.size_toArray, List.length_cons, List.length_nil, List.range, List.range.loop, List.getElem?_toArray, List.getElem?_cons_zero, List.cons_append, List.nil_append, ↓reduceIte, Nat.reduceAdd, Nat.reduceLT, Nat.zero_add, gl0]
    refine h2.draw (.q 0 (.q 1 (.q 2 (.q 3 (.l 4 [] (.q 5 (.q 6 (.q 7 (.q 8 (.q 9 (.fin))))))))))) [0, 1, 2, 3, 5, 6, 7, 8, 9] (by kernel_rfl) (by kernel_rfl) rfl ?_
    simp (disch := omega) only [sop, rOf, sLoadIn, sLoad, sNil, ev, evs, Env.get, Heap.get, takeN, cut, aggOf, setO, drawP_q, drawP_l, dq, dqn, dl, guardP, R1Q, dstOK, loudP, List.getElem?_toArray, List.getElem?_cons_succ, List.getElem?_cons_zero, ↓reduceIte, Nat.reduceLT, Nat.reduceEqDiff, Nat.add_one_ne_zero, true_and, reduceCtorEq, gl0, Try.sz3, Try.ag3, Try.sz26, Try.ag26]
    have hlend : List.take xs.length (xs.map eS) = xs.map eS := List.take_of_length_le (by simp)
    refine DCall.of (Does.lent h2.hP h2.hgl [8] [Po xs, I c] c1 ⟨trivial, trivial, rfl, trivial⟩ (by simp [lendL, lendS, lendSl, Heap.get, hlend]) (by simp [lendPL, lendP, lendSlP, Heap.get]; omega) (by simp [SV.bnd, SV.bndL]) ?_)
    rintro s' H' n' ⟨rfl, rfl, rfl⟩
    refine ⟨⟨by simp [SV.bnd, SV.bndL], by simp [SV.plain, SV.plainL], rfl, rfl⟩, ?_⟩
    cases ho : ofI xs c with
    | none =>
      rw [show ofV xs c = (0, false) by rw [ofV, if_pos hk, ho]]
      simp (disch := omega) only [sop, rOf, sExtract, ev, Env.get, setO, drawP_fin, drawP_q, dnext, dq, dqn, guardP, R1Q, dstOK, again, List.getElem?_toArray, List.getElem?_cons_succ, List.getElem?_cons_zero, ↓reduceIte, Nat.reduceLT, Nat.reduceEqDiff, true_and]
      refine h2.runD 300 ?_
      simp (disch := omega) only [runR_next, runR_fork_true, runR_stop, stepS, runOp, condS, toSR, sop, rOf, sUn, ev, Env.get, OutOK_stop, halt, isDraw, drawC, execD_succ, List.size_toArray, List.length_cons, List.length_nil, List.range, List.range.loop, List.getElem?_toArray, List.getElem?_cons_succ, List.getElem?_cons_zero, ↓reduceIte, Nat.reduceAdd, Nat.reduceLT, Nat.zero_add, Bool.not_false, gl0]
      have he : moveE xs c m = 2 := by simp only [moveE, hk, hr, Bool.true_eq_false, if_false, ho]
      refine h2.ret _ _ _ _ _ _ trivial rfl ?_
      refine h1.run 300 ?_
      simp (disch := omega) only [exec_succ, runR_next, runR_need, runR_fork_true, runR_stop, stepS, runOp, condS, toSR, sop, rOf, sStoreIn, sStore, sInt, sBin, fillS, evps, sBuild, ev, svs, Env.get, Heap.get, Heap.set, over, paste, cellsS, one, ones, setO, Value.oneCell', OutOK_need, OutOK_stop, undefS, undef, dropL, resV, List.size_toArray, List.length_cons, List.length_nil, List.range, List.range.loop, List.getElem?_toArray, List.getElem?_cons_succ, List.getElem?_cons_zero, List.map_cons, List.map_nil, ↓reduceIte, Nat.reduceAdd, Nat.reduceLT, Nat.reduceEqDiff, Nat.zero_add, Int.reduceEq, Bool.not_false, decide_false, true_and, and_self, forall_const, gl0, Try.sz26, Try.ze26, Try.pl26]
      refine h1.ret _ _ _ _ _ _ trivial rfl ?_
      refine hκ.run 300 ?_
      simp (disch := omega) only [allQuiet, quietOp, drawS, exec_succ, runR_next, runR_need, runR_stop, stepS, runOp, toSR, sop, rOf, rNew, sAlloc, sAlloc0, sStoreIn, sStore, sExtract, ev, svs, Env.get, Heap.get, Heap.set, over, paste, cellsS, one, ones, setO, Value.oneCell', OutOK_need, OutOK_stop, Option.isNone_none, undefS, undef, dropL, resV, Bool.and_true, Bool.and_false, List.length_cons, List.length_nil, List.getElem?_toArray, List.getElem?_cons_succ, List.getElem?_cons_zero, List.map_cons, List.map_nil, ↓reduceIte, Nat.reduceAdd, Nat.reduceLT, Nat.reduceEqDiff, Nat.zero_add, true_and, and_self, forall_const, gl0, Try.sz26, Try.ze26, Try.ar26]
      refine hκ.draw (.q 0 (.q 1 (.q 2 (.l 3 [1] (.q 4 (.q 5 (.fin))))))) [0, 1, 2, 4, 5] (by kernel_rfl) (by kernel_rfl) rfl ?_
      simp (disch := omega) only [sop, rOf, sLoadIn, sLoad, sStoreIn, sStore, ev, Env.get, Heap.get, Heap.set, takeN, cut, over, paste, aggOf, cellsS, one, ones, setO, Value.oneCell', drawP_fin, drawP_q, drawP_l, dnext, dq, dqn, dl, slotR, ag, guardP, R1Q, dstOK, loudP, again, again1, slotIs, R1OK, undefS, undef, List.length_cons, List.length_nil, List.getElem?_toArray, List.getElem?_cons_succ, List.getElem?_cons_zero, ↓reduceIte, Nat.reduceLT, Nat.reduceEqDiff, Nat.zero_add, true_and, and_self, forall_const, gl0, Try.sz3, Try.ag3, Try.sz26, Try.ag26]
      refine hκ.run 300 ?_
      simp (disch := omega) only [exec_succ, runR_stop, stepS, OutOK_stop, gl0]
      refine hκ.ret _ _ _ _ _ _ trivial rfl ?_
      rw [RetX.no (by omega), he]
      exact .ret (by simp [SV.bnd, SV.bndL])
    | some n =>
      obtain ⟨n1, n2⟩ := ofI_lt ho
      obtain ⟨k, rfl⟩ := Int.eq_ofNat_of_zero_le (show 0 ≤ c by simp only [hasB, Bool.and_eq_true, decide_eq_true_eq] at n2; omega)
      have k8 : k < 8 := by simp only [hasB, Bool.and_eq_true, decide_eq_true_eq] at n2; omega
      have hsn := hx _ (getD_mem n1)
      rw [show ofV xs k = ((n : Int), true) by rw [ofV, if_pos hk, ho]]
      simp (disch := omega) only [sop, rOf, sExtract, ev, Env.get, setO, drawP_fin, drawP_q, dnext, dq, dqn, guardP, R1Q, dstOK, again, List.getElem?_toArray, List.getElem?_cons_succ, List.getElem?_cons_zero, ↓reduceIte, Nat.reduceLT, Nat.reduceEqDiff, true_and]
      by_cases s1 : n = m
      case pos =>
        have e1 : ((n : Int) = m) = True := by simp only [eq_iff_iff, iff_true]; omega
        refine h2.runD 300 ?_
        simp (disch := omega) only [runR_next, runR_fork_true, runR_fork_false, runR_stop, stepS, runOp, condS, toSR, sop, rOf, sLoadIn, sLoad, sInt, sBin, sUn, ev, Env.get, Heap.get, takeN, cut, aggOf, OutOK_stop, halt, isDraw, drawC, execD_succ, List.size_toArray, List.length_cons, List.length_nil, List.range, List.range.loop, List.getElem?_toArray, List.getElem?_cons_succ, List.getElem?_cons_zero, ↓reduceIte, Nat.reduceAdd, Nat.reduceLT, Nat.reduceEqDiff, Nat.zero_add, Bool.not_true, decide_true, reduceCtorEq, gl0, Try.sz3, Try.ag3, e1]
        have he : moveE xs k m = 5 := by simp only [moveE, hk, hr, Bool.true_eq_false, if_false, ho]; rw [if_pos (by omega)]
        refine h2.ret _ _ _ _ _ _ trivial rfl ?_
        refine h1.run 300 ?_
        simp (disch := omega) only [exec_succ, runR_next, runR_need, runR_fork_true, runR_stop, stepS, runOp, condS, toSR, sop, rOf, sStoreIn, sStore, sInt, sBin, fillS, evps, sBuild, ev, svs, Env.get, Heap.get, Heap.set, over, paste, cellsS, one, ones, setO, Value.oneCell', OutOK_need, OutOK_stop, undefS, undef, dropL, resV, List.size_toArray, List.length_cons, List.length_nil, List.range, List.range.loop, List.getElem?_toArray, List.getElem?_cons_succ, List.getElem?_cons_zero, List.map_cons, List.map_nil, ↓reduceIte, Nat.reduceAdd, Nat.reduceLT, Nat.reduceEqDiff, Nat.zero_add, Int.reduceEq, Bool.not_false, decide_false, true_and, and_self, forall_const, gl0, Try.sz26, Try.ze26, Try.pl26]
        refine h1.ret _ _ _ _ _ _ trivial rfl ?_
        refine hκ.run 300 ?_
        simp (disch := omega) only [allQuiet, quietOp, drawS, exec_succ, runR_next, runR_need, runR_stop, stepS, runOp, toSR, sop, rOf, rNew, sAlloc, sAlloc0, sStoreIn, sStore, sExtract, ev, svs, Env.get, Heap.get, Heap.set, over, paste, cellsS, one, ones, setO, Value.oneCell', OutOK_need, OutOK_stop, Option.isNone_none, undefS, undef, dropL, resV, Bool.and_true, Bool.and_false, List.length_cons, List.length_nil, List.getElem?_toArray, List.getElem?_cons_succ, List.getElem?_cons_zero, List.map_cons, List.map_nil, ↓reduceIte, Nat.reduceAdd, Nat.reduceLT, Nat.reduceEqDiff, Nat.zero_add, true_and, and_self, forall_const, gl0, Try.sz26, Try.ze26, Try.ar26]
        refine hκ.draw (.q 0 (.q 1 (.q 2 (.l 3 [1] (.q 4 (.q 5 (.fin))))))) [0, 1, 2, 4, 5] (by kernel_rfl) (by kernel_rfl) rfl ?_
        simp (disch := omega) only [sop, rOf, sLoadIn, sLoad, sStoreIn, sStore, ev, Env.get, Heap.get, Heap.set, takeN, cut, over, paste, aggOf, cellsS, one, ones, setO, Value.oneCell', drawP_fin, drawP_q, drawP_l, dnext, dq, dqn, dl, slotR, ag, guardP, R1Q, dstOK, loudP, again, again1, slotIs, R1OK, undefS, undef, List.length_cons, List.length_nil, List.getElem?_toArray, List.getElem?_cons_succ, List.getElem?_cons_zero, ↓reduceIte, Nat.reduceLT, Nat.reduceEqDiff, Nat.zero_add, true_and, and_self, forall_const, gl0, Try.sz3, Try.ag3, Try.sz26, Try.ag26]
        refine hκ.run 300 ?_
        simp (disch := omega) only [exec_succ, runR_stop, stepS, OutOK_stop, gl0]
        refine hκ.ret _ _ _ _ _ _ trivial rfl ?_
        rw [RetX.no (by omega), he]
        exact .ret (by simp [SV.bnd, SV.bndL])
      have e1 : ((n : Int) = m) = False := by simp only [eq_iff_iff, iff_false]; omega
      refine h2.runD 300 ?_
      simp (disch := omega) only [runR_next, runR_need, runR_fork_false, runR_call, stepS, runOp, condS, toSR, sop, rOf, sLoadIn, sLoad, sNil, sInt, sBin, sUn, sFieldAddr, sIndexAddr, elemT, obind, ev, evs, Env.get, Heap.get, takeN, cut, aggOf, OutOK_need, OutOK_call, halt, isDraw, drawC, execD_succ, List.size_toArray, List.length_cons, List.length_nil, List.length_map, List.range, List.range.loop, List.getElem?_toArray, List.getElem?_cons_succ, List.getElem?_cons_zero, ↓reduceIte, Nat.reduceAdd, Nat.reduceLT, Nat.reduceEqDiff, Nat.zero_add, Nat.add_zero, Nat.add_one_ne_zero, Int.toNat_natCast, Bool.not_true, decide_false, reduceCtorEq, getD_map, gl0, Try.sz3, Try.ag3, Try.underlying24, Try.sz24, Try.ag24, Try.fd26f0, Try.sz31, Try.ag31, e1, eS]
      (repeat (refine ⟨by first | omega | (refine ⟨?_, ?_⟩ <;> omega) | trivial | (simp; done) | decide +kernel, fun _ => ?_⟩))
      refine Does.ret h2.hP h2.hgl (count_ok (xs.getD n default) hsn) ⟨trivial, by simp [SV.bnd, SV.bndL], by first | (simp [SV.bnd, SV.bndL]; done) | assumption⟩ ?_
      by_cases s2 : cnt (xs.getD n default) = 1
      case pos =>
        have e2 : ((cnt (xs.getD n default) : Int) = 1) = True := by simp only [eq_iff_iff, iff_true]; omega
        refine h2.runD 300 ?_
        simp (disch := omega) only [runR_next, runR_fork_true, runR_stop, stepS, runOp, condS, toSR, sop, rOf, sInt, sBin, ev, Env.get, setO, OutOK_stop, halt, isDraw, drawC, execD_succ, List.size_toArray, List.length_cons, List.length_nil, List.range, List.range.loop, List.getElem?_toArray, List.getElem?_cons_succ, List.getElem?_cons_zero, ↓reduceIte, Nat.reduceLT, Nat.zero_add, decide_true, gl0, e2]
        have he : moveE xs k m = 181 := by simp only [moveE, hk, hr, Bool.true_eq_false, if_false, ho]; rw [if_neg (by omega), if_pos s2]
        refine h2.ret _ _ _ _ _ _ trivial rfl ?_
        refine h1.run 300 ?_
        simp (disch := omega) only [exec_succ, runR_next, runR_need, runR_fork_true, runR_stop, stepS, runOp, condS, toSR, sop, rOf, sStoreIn, sStore, sInt, sBin, fillS, evps, sBuild, ev, svs, Env.get, Heap.get, Heap.set, over, paste, cellsS, one, ones, setO, Value.oneCell', OutOK_need, OutOK_stop, undefS, undef, dropL, resV, List.size_toArray, List.length_cons, List.length_nil, List.range, List.range.loop, List.getElem?_toArray, List.getElem?_cons_succ, List.getElem?_cons_zero, List.map_cons, List.map_nil, ↓reduceIte, Nat.reduceAdd, Nat.reduceLT, Nat.reduceEqDiff, Nat.zero_add, Int.reduceEq, Bool.not_false, decide_false, true_and, and_self, forall_const, gl0, Try.sz26, Try.ze26, Try.pl26]
        refine h1.ret _ _ _ _ _ _ trivial rfl ?_
        refine hκ.run 300 ?_
        simp (disch := omega) only [allQuiet, quietOp, drawS, exec_succ, runR_next, runR_need, runR_stop, stepS, runOp, toSR, sop, rOf, rNew, sAlloc, sAlloc0, sStoreIn, sStore, sExtract, ev, svs, Env.get, Heap.get, Heap.set, over, paste, cellsS, one, ones, setO, Value.oneCell', OutOK_need, OutOK_stop, Option.isNone_none, undefS, undef, dropL, resV, Bool.and_true, Bool.and_false, List.length_cons, List.length_nil, List.getElem?_toArray, List.getElem?_cons_succ, List.getElem?_cons_zero, List.map_cons, List.map_nil, ↓reduceIte, Nat.reduceAdd, Nat.reduceLT, Nat.reduceEqDiff, Nat.zero_add, true_and, and_self, forall_const, gl0, Try.sz26, Try.ze26, Try.ar26]
        refine hκ.draw (.q 0 (.q 1 (.q 2 (.l 3 [1] (.q 4 (.q 5 (.fin))))))) [0, 1, 2, 4, 5] (by kernel_rfl) (by kernel_rfl) rfl ?_
        simp (disch := omega) only [sop, rOf, sLoadIn, sLoad, sStoreIn, sStore, ev, Env.get, Heap.get, Heap.set, takeN, cut, over, paste, aggOf, cellsS, one, ones, setO, Value.oneCell', drawP_fin, drawP_q, drawP_l, dnext, dq, dqn, dl, slotR, ag, guardP, R1Q, dstOK, loudP, again, again1, slotIs, R1OK, undefS, undef, List.length_cons, List.length_nil, List.getElem?_toArray, List.getElem?_cons_succ, List.getElem?_cons_zero, ↓reduceIte, Nat.reduceLT, Nat.reduceEqDiff, Nat.zero_add, true_and, and_self, forall_const, gl0, Try.sz3, Try.ag3, Try.sz26, Try.ag26]
        refine hκ.run 300 ?_
        simp (disch := omega) only [exec_succ, runR_stop, stepS, OutOK_stop, gl0]
        refine hκ.ret _ _ _ _ _ _ trivial rfl ?_
        rw [RetX.no (by omega), he]
        exact .ret (by simp [SV.bnd, SV.bndL])
      have e2 : ((cnt (xs.getD n default) : Int) = 1) = False := by simp only [eq_iff_iff, iff_false]; omega
      have he : moveE xs k m = 0 := by simp only [moveE, hk, hr, Bool.true_eq_false, if_false, ho]; rw [if_neg (by omega), if_neg s2]
      have hp := pow_lt_256 k8
      have hpw := pow32 k (by omega)
      have dd := andNot32 hsn (show 2 ^ k < 4294967296 by omega)
      have oo := or32 hown (show 2 ^ k < 4294967296 by omega)
      refine h2.runD 300 ?_
      simp (disch := omega) only [runR_next, runR_need, runR_fork_false, stepS, runOp, condS, toSR, sop, rOf, sLoadIn, sLoad, sStoreIn, sStore, sInt, sBin, ev, svs, Env.get, Heap.get, Heap.set, takeN, cut, over, paste, aggOf, cellsS, one, ones, setO, Value.cells, Value.oneCell', OutOK_need, OutOK_stop, undefS, undef, halt, isDraw, drawC, execD_succ, List.size_toArray, List.length_cons, List.length_nil, List.range, List.range.loop, List.getElem?_toArray, List.getElem?_cons_succ, List.getElem?_cons_zero, List.map_cons, List.map_nil, List.toList_toArray, ↓reduceIte, Nat.reduceAdd, Nat.reduceLT, Nat.reduceEqDiff, Nat.zero_add, Int.toNat_natCast, decide_false, true_and, and_self, forall_const, reduceCtorEq, shAmt_of, IntKind.bits, gl0, Try.sz3, Try.ag3, e2, hpw]
      (repeat (refine ⟨by first | omega | (refine ⟨?_, ?_⟩ <;> omega) | trivial | (simp; done) | decide +kernel, fun _ => ?_⟩))
      have hgm : (List.map eS (xs.set n (dif (xs.getD n default) (2 ^ k)))).getD m [] = [S ((xs.set n (dif (xs.getD n default) (2 ^ k))).getD m default)] := by
        rw [getD_map _ _ _ (by simp; omega)]; rfl
      refine h2.draw (.q 0 (.q 1 (.q 2 (.q 3 (.q 4 (.q 5 (.q 6 (.q 7 (.q 8 (.q 9 (.q 10 (.q 11 (.q 12 (.q 13 (.q 14 (.q 15 (.q 16 (.q 17 (.q 18 (.q 19 (.q 20 (.q 21 (.q 22 (.q 23 (.q 24 (.q 25 (.q 26 (.q 27 (.q 28 (.l 29 [9, 23] (.q 30 (.l 31 [] (.fin))))))))))))))))))))))))))))))))) [0, 1, 2, 3, 4, 5, 6, 7, 8, 9, 10, 11, 12, 13, 14, 15, 16, 17, 18, 19, 20, 21, 22, 23, 24, 25, 26, 27, 28, 30] (by kernel_rfl) (by kernel_rfl) rfl ?_
      simp (disch := omega) only [sop, rOf, sLoadIn, sLoad, sStoreIn, sStore, sNil, sInt, sBin, sFieldAddr, sIndexAddr, elemT, obind, ev, svs, Env.get, Heap.get, Heap.set, takeN, cut, over, paste, aggOf, cellsS, one, ones, idFree, idFrees, setO, Value.cells, Value.oneCell', drawP_fin, drawP_q, drawP_l, dnext, dq, dqn, dl, slotR, ag, guardP, R1Q, dstOK, loudP, again, again1, slotIs, R1OK, undefS, undef, Bool.and_true, List.length_cons, List.length_nil, List.length_map, List.length_set, List.getElem?_toArray, List.getElem?_cons_succ, List.getElem?_cons_zero, List.map_cons, List.map_nil, List.toList_toArray, ↓reduceIte, Nat.reduceLT, Nat.reduceEqDiff, Nat.zero_add, Nat.add_zero, Nat.add_one_ne_zero, Int.toNat_natCast, and_true, true_and, and_self, reduceCtorEq, getD_map, gl0, Try.sz3, Try.ag3, Try.underlying24, Try.sz24, Try.ag24, Try.fd26f0, Try.sz31, Try.ag31, dd, oo, setS, hgm, eS]
      (repeat (refine ⟨by first | omega | (refine ⟨?_, ?_⟩ <;> omega) | trivial | (simp; done) | decide +kernel, fun _ => ?_⟩))
      refine h2.runD 300 ?_
      simp (disch := omega) only [runR_next, runR_stop, stepS, runOp, toSR, sop, rOf, ev, OutOK_stop, halt, isDraw, drawC, execD_succ, List.size_toArray, List.length_cons, List.length_nil, List.range, List.range.loop, List.getElem?_toArray, List.getElem?_cons_zero, ↓reduceIte, Nat.reduceLT, Nat.zero_add, gl0]
      refine h2.ret _ _ _ _ _ _ trivial rfl ?_
      refine h1.run 300 ?_
      simp (disch := omega) only [exec_succ, runR_next, runR_need, runR_fork_false, runR_stop, stepS, runOp, condS, toSR, sop, rOf, sLoadIn, sLoad, sStoreIn, sStore, sInt, sBin, ev, Env.get, Heap.get, Heap.set, takeN, cut, over, paste, aggOf, cellsS, one, ones, setO, OutOK_need, OutOK_stop, undefS, undef, dropL, resV, List.size_toArray, List.length_cons, List.length_nil, List.range, List.range.loop, List.getElem?_toArray, List.getElem?_cons_succ, List.getElem?_cons_zero, ↓reduceIte, Nat.reduceAdd, Nat.reduceLT, Nat.reduceEqDiff, Nat.zero_add, Bool.not_true, decide_true, true_and, and_self, forall_const, gl0, Try.sz26, Try.ag26]
      refine h1.ret _ _ _ _ _ _ trivial rfl ?_
      refine hκ.run 300 ?_
      simp (disch := omega) only [allQuiet, quietOp, drawS, exec_succ, runR_next, runR_need, runR_stop, stepS, runOp, toSR, sop, rOf, rNew, sAlloc, sAlloc0, sStoreIn, sStore, sExtract, ev, svs, Env.get, Heap.get, Heap.set, over, paste, cellsS, one, ones, setO, OutOK_need, OutOK_stop, Option.isNone_none, undefS, undef, dropL, resV, Bool.and_true, Bool.and_false, List.length_cons, List.length_nil, List.getElem?_toArray, List.getElem?_cons_succ, List.getElem?_cons_zero, List.map_cons, List.map_nil, ↓reduceIte, Nat.reduceAdd, Nat.reduceLT, Nat.reduceEqDiff, Nat.zero_add, true_and, and_self, forall_const, gl0, Try.sz26, Try.ze26, Try.ar26]
      refine hκ.draw (.q 0 (.q 1 (.q 2 (.l 3 [1] (.q 4 (.q 5 (.fin))))))) [0, 1, 2, 4, 5] (by kernel_rfl) (by kernel_rfl) rfl ?_
      simp (disch := omega) only [sop, rOf, sLoadIn, sLoad, sStoreIn, sStore, ev, Env.get, Heap.get, Heap.set, takeN, cut, over, paste, aggOf, cellsS, one, ones, setO, drawP_fin, drawP_q, drawP_l, dnext, dq, dqn, dl, slotR, ag, guardP, R1Q, dstOK, loudP, again, again1, slotIs, R1OK, undefS, undef, List.length_cons, List.length_nil, List.getElem?_toArray, List.getElem?_cons_succ, List.getElem?_cons_zero, ↓reduceIte, Nat.reduceLT, Nat.reduceEqDiff, Nat.zero_add, true_and, and_self, forall_const, gl0, Try.sz3, Try.ag3, Try.sz26, Try.ag26]
      refine hκ.runD 300 ?_
      simp (disch := omega) only [runR_stop, stepS, OutOK_stop, halt, isDraw, drawC, execD_succ, gl0]
      refine hκ.ret _ _ _ _ _ _ trivial rfl ?_
      rw [RetX.ok he, show moveN xs k = n by rw [moveN, ho]; rfl]
      rw [show moveX xs k m = (xs.set n (dif (xs.getD n default) (2 ^ k))).set m (xs.getD m default ||| 2 ^ k) by rw [moveX, show moveN xs k = n by rw [moveN, ho]; rfl, Int.toNat_natCast, Int.toNat_natCast]]
      exact Post.rowP (pre := fun r => .tup [.agg [r], I n, I 0]) (Pre.aggE2 .agg1 _ _) rfl (by simp)
end Go.Proofs.Ytfhiaddbpacgeaa
