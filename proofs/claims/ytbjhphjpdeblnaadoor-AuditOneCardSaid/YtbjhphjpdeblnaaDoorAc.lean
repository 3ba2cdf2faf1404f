/- Watches: moments that may be, as the document says it. No condition. -/
import Derived.Test.YtbjhphjpdeblnaaDoorAb
namespace Go.Proofs.YtbjhphjpdeblnaaDoor
open Go Go.Sy
set_option maxRecDepth 100000
set_option linter.unusedSimpArgs false
set_option linter.unusedVariables false

theorem alike_same {x y : Se} (h : alikeB x y = true) : sameB x y = true := by
  rw [alikeB, Bool.and_eq_true] at h; exact h.1
theorem cnt_all {x : Se} {l : List Se} (h : ∀ y ∈ l, sameB x y = true → alikeB x y = true) : l.countP (alikeB x) = l.countP (sameB x) :=
  List.countP_congr fun y hy => ⟨alike_same, h y hy⟩
theorem cnt_le {x : Se} (l : List Se) : l.countP (alikeB x) ≤ l.countP (sameB x) := List.countP_mono_left fun y _ => alike_same
theorem cnt_lt {x y : Se} {l : List Se} (hy : y ∈ l) (h1 : sameB x y = true) (h2 : alikeB x y = false) : l.countP (alikeB x) < l.countP (sameB x) := by
  obtain ⟨a, b, rfl⟩ := List.append_of_mem hy
  have ha := cnt_le (x := x) a
  have hb := cnt_le (x := x) b
  rw [List.countP_append, List.countP_append, List.countP_cons, List.countP_cons, h1, h2]
  simp only [if_true, if_false, Bool.false_eq_true]
  omega
theorem rmoment_ok (m : Mo) (hm : inM m) : Con Tryd.prog gl0 (fnv 9) [.agg (eM m)] 0 [] (Ret (Bo (rightM m))) := by
  obtain ⟨ha, hl, hn⟩ := hm
  obtain ⟨t, l⟩ := m
  dsimp only at ha hl hn
  have bad : inI t 0 1125899906842624 = false → rightM (t, l) = false := fun h => by rw [rightM, h, Bool.and_false]
  refine Con.of Tryd.ok9 (nt := 89) (res := [.tmp 2]) Tryd.mixed Tryd.func9 rfl rfl rfl rfl fun κ xc hκ => hκ.run 300 ?_
  simp (disch := omega) only [exec_succ, runR_next, stepS, runOp, guardS, toSR, sop, rOf, rNew, sBox, isArr, sLoadIn, sLoad, sInt, sBin, sFieldAddr, ev, Env.get, Heap.get, takeN, cut, aggOf, cellsS, envOf, undefS, undef, Bool.false_eq_true, List.size_toArray, List.length_cons, List.length_nil, List.range, List.range.loop, List.getElem?_toArray, List.getElem?_cons_succ, List.getElem?_cons_zero, Option.bind_some, ↓reduceIte, Nat.reduceAdd, Nat.reduceLT, Nat.reduceEqDiff, Nat.zero_add, Nat.add_zero, Nat.add_one_ne_zero, Bool.not_false, and_self, gl0, Tryd.sz2, Tryd.ag2, Tryd.fd24f0, eM]
  by_cases q1 : t < 0
  · rw [bad (by rw [inI, decide_eq_false (by omega)]; rfl)] at hκ
    simp (disch := omega) only [exec_succ, runR_next, runR_fork_true, runR_guard_tf, runR_stop, stepS, runOp, guardS, condS, toSR, sop, rOf, sPick, sLoad, sBin, ev, Env.get, OutOK_stop, undefS, undef, List.size_toArray, List.length_cons, List.length_nil, List.range, List.range.loop, List.getElem?_toArray, List.getElem?_cons_succ, List.getElem?_cons_zero, Option.bind_some, ↓reduceIte, Nat.reduceLT, Nat.reduceEqDiff, Nat.zero_add, Bool.not_false, decide_true, and_self, q1]
    refine hκ.ret _ _ _ _ _ _ trivial rfl ?_
    exact .ret trivial
  by_cases q2 : (1125899906842624 : Int) < t
  · rw [bad (by rw [inI, decide_eq_false (show ¬ t ≤ 1125899906842624 by omega), Bool.and_false])] at hκ
    simp (disch := omega) only [exec_succ, runR_next, runR_fork_true, runR_guard_ff, runR_stop, stepS, runOp, guardS, condS, toSR, sop, rOf, sPick, sLoadIn, sLoad, sInt, sBin, ev, Env.get, Heap.get, takeN, cut, aggOf, OutOK_stop, undefS, undef, List.size_toArray, List.length_cons, List.length_nil, List.range, List.range.loop, List.getElem?_toArray, List.getElem?_cons_succ, List.getElem?_cons_zero, Option.bind_some, ↓reduceIte, Nat.reduceLT, Nat.reduceEqDiff, Nat.zero_add, Bool.not_false, decide_true, decide_false, and_self, Tryd.sz2, Tryd.ag2, q1, q2]
    refine hκ.ret _ _ _ _ _ _ trivial rfl ?_
    exact .ret trivial
  simp (disch := omega) only [exec_succ, runR_next, runR_fork_false, runR_guard_ff, runR_stop, stepS, runOp, guardS, condS, toSR, sop, rOf, sPick, sLoadIn, sLoad, sInt, sBin, ev, Env.get, Heap.get, takeN, cut, aggOf, OutOK_stop, undefS, undef, List.size_toArray, List.length_cons, List.length_nil, List.range, List.range.loop, List.getElem?_toArray, List.getElem?_cons_succ, List.getElem?_cons_zero, Option.bind_some, ↓reduceIte, Nat.reduceLT, Nat.reduceEqDiff, Nat.zero_add, Bool.not_false, decide_false, and_self, Tryd.sz2, Tryd.ag2, q1, q2]
  refine Sat.less (Sat.loop (γ := Nat) (fun k => ([(3, I k), (1, .ptr 0 0 0 0)], [(0, .own [I t, Xs l] 24)], 1)) (fun k => l.length - k) (fun k => k ≤ l.length ∧ ∀ j, j < k → momB l j = true) ?round 0 ⟨Nat.zero_le _, fun j hj => by omega⟩) (by repeat' (first | exact EnvSub.nil _ | exact HeapSub.nil _ | refine EnvSub.cons rfl ?_ | refine HeapSub.cons rfl ?_ | (refine EnvSub.cons (by simp [Env.get]; done) ?_) | (refine HeapSub.cons (by simp [Heap.get]; done) ?_))) (by repeat' (first | exact EnvSub.nil _ | exact HeapSub.nil _ | refine EnvSub.cons rfl ?_ | refine HeapSub.cons rfl ?_ | (refine EnvSub.cons (by simp [Env.get]; done) ?_) | (refine HeapSub.cons (by simp [Heap.get]; done) ?_)))
  case round =>
    rintro k ⟨hk, hj⟩ ih
    dsimp only at hk hj ih ⊢
    refine hκ.runD 300 ?_
    simp (disch := omega) only [sBuiltin, runR_next, stepS, runOp, condS, toSR, sop, rOf, sLoadIn, sLoad, sInt, sBin, sFieldAddr, sLen, ev, Env.get, Heap.get, takeN, cut, aggOf, halt, isDraw, drawC, execD_succ, List.size_toArray, List.length_cons, List.length_nil, List.length_map, List.range, List.range.loop, List.getElem?_toArray, List.getElem?_cons_succ, List.getElem?_cons_zero, ↓reduceIte, Nat.reduceAdd, Nat.reduceLT, Nat.reduceEqDiff, Nat.zero_add, Nat.add_one_ne_zero, gl0, Tryd.underlying22, Tryd.sz22, Tryd.ag22, Tryd.fd24f1]
    refine OutOK_fork (fun h => ?_) (fun h => ?_) <;> try simp only [Bool.not_true, Bool.not_false, decide_eq_true_eq, decide_eq_false_iff_not, Bool.not_eq_true', Bool.not_eq_false', Bool.and_eq_true, Bool.or_eq_false_iff, Bool.or_eq_true, Bool.and_eq_false_iff] at h
    · have hx := hl _ (getD_mem (show k < l.length by omega))
      have hz := fun h => ih (k + 1) ⟨by omega, h⟩ (by omega)
      have hno : momB l k = false → rightM (t, l) = false := fun h => rightM_no (m := (t, l)) (by dsimp only; omega) h
      have hyes : momB l k = true → ∀ j, j < k + 1 → momB l j = true := fun h j hj2 => by
        by_cases e : j = k
        · rw [e]; exact h
        · exact hj j (by omega)
      rw [momB] at hno hyes
      have c1 := rseen_ok _ hx
      simp (disch := omega) only [runR_next, runR_need, stepS, runOp, toSR, sop, rOf, rNew, sAlloc, sAlloc0, sLoadIn, sLoad, sStoreIn, sStore, sFieldAddr, sIndexAddr, elemT, obind, ev, svs, Env.get, Heap.get, Heap.set, takeN, cut, over, paste, aggOf, cellsS, one, ones, Value.oneCell', OutOK_need, OutOK_stop, undefS, undef, halt, isDraw, drawC, execD_succ, List.size_toArray, List.length_cons, List.length_nil, List.length_map, List.range, List.range.loop, List.getElem?_toArray, List.getElem?_cons_succ, List.getElem?_cons_zero, List.map_cons, List.map_nil, ↓reduceIte, Nat.reduceAdd, Nat.reduceLT, Nat.reduceEqDiff, Nat.zero_add, Nat.add_one_ne_zero, Int.toNat_natCast, true_and, and_self, forall_const, getD_map, Tryd.underlying22, Tryd.sz22, Tryd.ag22, Tryd.fd24f1, Tryd.sz33, Tryd.ag33, Tryd.ze33, Tryd.ar33, eX]
      (repeat (refine ⟨by first | omega | (refine ⟨?_, ?_⟩ <;> omega) | trivial | (simp; done) | decide +kernel, fun _ => ?_⟩))
      generalize hxx : l.getD k default = x at hx hno hyes c1 ⊢
      cases hs : seenB x
      · rw [hs] at c1 hno
        rw [hno rfl] at hκ
        refine hκ.draw (.q 0 (.l 1 [] (.q 2 (.q 3 (.q 4 (.q 5 (.q 6 (.q 7 (.q 8 (.q 9 (.q 10 (.q 11 (.q 12 (.q 13 (.q 14 (.q 15 (.q 16 (.q 17 (.q 18 (.fin)))))))))))))))))))) [0, 2, 3, 4, 5, 6, 7, 8, 9, 10, 11, 12, 13, 14, 15, 16, 17, 18] (by kernel_rfl) (by kernel_rfl) rfl ?_
        simp (disch := omega) only [sop, rOf, sLoadIn, sLoad, ev, evs, Env.get, Heap.get, takeN, cut, aggOf, setO, drawP_q, drawP_l, dq, dqn, dl, guardP, R1Q, dstOK, loudP, List.getElem?_toArray, List.getElem?_cons_succ, List.getElem?_cons_zero, ↓reduceIte, Nat.reduceLT, true_and, gl0, Tryd.sz33, Tryd.ag33]
        refine DCall.of (Does.ret hκ.hP hκ.hgl (c1) ⟨trivial, by simp [SV.bnd, SV.bndL], by first | (simp [SV.bnd, SV.bndL]; done) | assumption⟩ ?_)
        simp (disch := omega) only [sop, rOf, sPick, sUn, ev, Env.get, setO, drawP_fin, drawP_q, dnext, dq, dqn, GF.tf, guardP, R1Q, dstOK, again, undefS, undef, List.getElem?_toArray, List.getElem?_cons_succ, List.getElem?_cons_zero, Option.bind_some, ↓reduceIte, Nat.reduceLT, Nat.reduceEqDiff, Bool.not_false, true_and]
        refine hκ.run 300 ?_
        simp (disch := omega) only [exec_succ, runR_next, runR_fork_true, runR_stop, stepS, runOp, condS, toSR, sop, rOf, ev, Env.get, OutOK_stop, List.size_toArray, List.length_cons, List.length_nil, List.range, List.range.loop, List.getElem?_toArray, List.getElem?_cons_zero, ↓reduceIte, Nat.reduceLT, Nat.zero_add, gl0]
        refine hκ.ret _ _ _ _ _ _ trivial rfl ?_
        exact .ret trivial
      rw [hs] at c1
      apply Sat.join (α := Unit) (nx := 2) (dfs := []) (fun _ => (decide (k = 0) || decide ((l.getD (k - 1) default).v < x.v)) = true) (fun _ => ([(4, .ptr 1 0 0 0), (3, I k), (1, .ptr 0 0 0 0)], [(1, BX x), (0, .own [I t, Xs l] 24)]))
      · intro hjn
        by_cases h0 : k = 0
        · have hj := hjn () (by rw [decide_eq_true h0]; rfl)
          dsimp only at hj
          have e0 : ((0 : Int) < (k : Int)) = False := by simp only [eq_iff_iff, iff_false]; omega
          refine hκ.draw (.q 0 (.l 1 [] (.q 2 (.q 3 (.q 4 (.q 5 (.q 6 (.q 7 (.q 8 (.q 9 (.q 10 (.q 11 (.q 12 (.q 13 (.q 14 (.q 15 (.q 16 (.q 17 (.q 18 (.fin)))))))))))))))))))) [0, 2, 3, 4, 5, 6, 7, 8, 9, 10, 11, 12, 13, 14, 15, 16, 17, 18] (by kernel_rfl) (by kernel_rfl) rfl ?_
          simp (disch := omega) only [sop, rOf, sLoadIn, sLoad, ev, evs, Env.get, Heap.get, takeN, cut, aggOf, setO, drawP_q, drawP_l, dq, dqn, dl, guardP, R1Q, dstOK, loudP, List.getElem?_toArray, List.getElem?_cons_succ, List.getElem?_cons_zero, ↓reduceIte, Nat.reduceLT, true_and, gl0, Tryd.sz33, Tryd.ag33]
          refine DCall.of (Does.ret hκ.hP hκ.hgl (c1) ⟨trivial, by simp [SV.bnd, SV.bndL], by first | (simp [SV.bnd, SV.bndL]; done) | assumption⟩ ?_)
          simp (disch := omega) only [sop, rOf, sInt, sBin, sUn, ev, Env.get, setO, drawP_q, dnext, dq, dqn, GF.ff, guardP, R1Q, dstOK, again, List.getElem?_toArray, List.getElem?_cons_succ, List.getElem?_cons_zero, Option.bind_some, ↓reduceIte, Nat.reduceLT, Nat.reduceEqDiff, Bool.not_true, true_and]
          (try (repeat (refine ⟨by first | omega | (refine ⟨?_, ?_⟩ <;> omega) | trivial | (simp; done) | decide +kernel, fun _ => ?_⟩)))
          simp (disch := omega) only [sop, rOf, sPick, ev, Env.get, setO, drawP_fin, drawP_q, dq, dqn, GF.ff, GF.ft, guardP, R1Q, dstOK, undefS, undef, List.getElem?_toArray, List.getElem?_cons_succ, List.getElem?_cons_zero, Option.bind_some, ↓reduceIte, Nat.reduceLT, Nat.reduceEqDiff, decide_false, true_and, e0]
          refine hκ.runA 9 300 ?_
          simp (disch := omega) only [runR_next, runR_fork_false, stepS, condS, ev, Env.get, OutOK_stop, halt, isAt, atC, execA_succ, ↓reduceIte, beq_self_eq_true, gl0]
          exact hj.less (by repeat' (first | exact EnvSub.nil _ | exact HeapSub.nil _ | refine EnvSub.cons rfl ?_ | refine HeapSub.cons rfl ?_ | (refine EnvSub.cons (by simp [Env.get]; done) ?_) | (refine HeapSub.cons (by simp [Heap.get]; done) ?_))) (by repeat' (first | exact EnvSub.nil _ | exact HeapSub.nil _ | refine EnvSub.cons rfl ?_ | refine HeapSub.cons rfl ?_ | (refine EnvSub.cons (by simp [Env.get]; done) ?_) | (refine HeapSub.cons (by simp [Heap.get]; done) ?_)))
        · have e0 : ((0 : Int) < (k : Int)) = True := by simp only [eq_iff_iff, iff_true]; omega
          have hk1 : (k : Int) - 1 = ((k - 1 : Nat) : Int) := by omega
          have gk : (List.map eX l).getD (k - 1) [] = eX (l.getD (k - 1) default) := getD_map _ _ _ (by omega)
          have hxp := hl _ (getD_mem (show k - 1 < l.length by omega))
          by_cases h1 : (l.getD (k - 1) default).v < x.v
          case neg =>
            rw [hs, decide_eq_false h0, decide_eq_false h1, Bool.or_false, Bool.false_and, Bool.and_false] at hno
            rw [hno rfl] at hκ
            have e1 : (x.v ≤ (l.getD (k - 1) default).v) = True := by first | (simp only [eq_iff_iff, iff_true]; first | assumption | omega) | (simp; omega)
            refine hκ.draw (.q 0 (.l 1 [] (.q 2 (.q 3 (.q 4 (.q 5 (.q 6 (.q 7 (.q 8 (.q 9 (.q 10 (.q 11 (.q 12 (.q 13 (.q 14 (.q 15 (.q 16 (.q 17 (.q 18 (.fin)))))))))))))))))))) [0, 2, 3, 4, 5, 6, 7, 8, 9, 10, 11, 12, 13, 14, 15, 16, 17, 18] (by kernel_rfl) (by kernel_rfl) rfl ?_
            simp (disch := omega) only [sop, rOf, sLoadIn, sLoad, ev, evs, Env.get, Heap.get, takeN, cut, aggOf, setO, drawP_q, drawP_l, dq, dqn, dl, guardP, R1Q, dstOK, loudP, List.getElem?_toArray, List.getElem?_cons_succ, List.getElem?_cons_zero, ↓reduceIte, Nat.reduceLT, true_and, gl0, Tryd.sz33, Tryd.ag33]
            refine DCall.of (Does.ret hκ.hP hκ.hgl (c1) ⟨trivial, by simp [SV.bnd, SV.bndL], by first | (simp [SV.bnd, SV.bndL]; done) | assumption⟩ ?_)
            simp (disch := omega) only [sop, rOf, sPick, sLoadIn, sLoad, sInt, sBin, sUn, sFieldAddr, sIndexAddr, elemT, obind, ev, Env.get, Heap.get, takeN, cut, aggOf, setO, drawP_fin, drawP_q, dnext, dq, dqn, GF.tt, GF.ff, guardP, R1Q, dstOK, again, List.length_map, List.getElem?_toArray, List.getElem?_cons_succ, List.getElem?_cons_zero, Option.bind_some, ↓reduceIte, Nat.reduceLT, Nat.reduceEqDiff, Nat.zero_add, Nat.add_zero, Nat.add_one_ne_zero, Int.toNat_natCast, Bool.not_true, decide_true, true_and, wrap_i64, Tryd.sz3, Tryd.ag3, Tryd.underlying22, Tryd.sz22, Tryd.ag22, Tryd.fd24f1, Tryd.sz33, Tryd.fd33f0, eX, e0, hk1, gk, e1]
            (repeat (refine ⟨by first | omega | (refine ⟨?_, ?_⟩ <;> omega) | trivial | (simp; done) | decide +kernel, fun _ => ?_⟩))
            refine hκ.run 300 ?_
            simp (disch := omega) only [exec_succ, runR_next, runR_fork_true, runR_stop, stepS, runOp, condS, toSR, sop, rOf, ev, Env.get, OutOK_stop, List.size_toArray, List.length_cons, List.length_nil, List.range, List.range.loop, List.getElem?_toArray, List.getElem?_cons_zero, ↓reduceIte, Nat.reduceLT, Nat.zero_add, gl0]
            refine hκ.ret _ _ _ _ _ _ trivial rfl ?_
            exact .ret trivial
          have hj := hjn () (by rw [decide_eq_true h1, Bool.or_true])
          dsimp only at hj
          have e1 : (x.v ≤ (l.getD (k - 1) default).v) = False := by first | (simp only [eq_iff_iff, iff_false]; first | assumption | omega) | (simp; omega)
          refine hκ.draw (.q 0 (.l 1 [] (.q 2 (.q 3 (.q 4 (.q 5 (.q 6 (.q 7 (.q 8 (.q 9 (.q 10 (.q 11 (.q 12 (.q 13 (.q 14 (.q 15 (.q 16 (.q 17 (.q 18 (.fin)))))))))))))))))))) [0, 2, 3, 4, 5, 6, 7, 8, 9, 10, 11, 12, 13, 14, 15, 16, 17, 18] (by kernel_rfl) (by kernel_rfl) rfl ?_
          simp (disch := omega) only [sop, rOf, sLoadIn, sLoad, ev, evs, Env.get, Heap.get, takeN, cut, aggOf, setO, drawP_q, drawP_l, dq, dqn, dl, guardP, R1Q, dstOK, loudP, List.getElem?_toArray, List.getElem?_cons_succ, List.getElem?_cons_zero, ↓reduceIte, Nat.reduceLT, true_and, gl0, Tryd.sz33, Tryd.ag33]
          refine DCall.of (Does.ret hκ.hP hκ.hgl (c1) ⟨trivial, by simp [SV.bnd, SV.bndL], by first | (simp [SV.bnd, SV.bndL]; done) | assumption⟩ ?_)
          simp (disch := omega) only [sop, rOf, sPick, sLoadIn, sLoad, sInt, sBin, sUn, sFieldAddr, sIndexAddr, elemT, obind, ev, Env.get, Heap.get, takeN, cut, aggOf, setO, drawP_fin, drawP_q, dnext, dq, dqn, GF.tt, GF.ff, guardP, R1Q, dstOK, again, List.length_map, List.getElem?_toArray, List.getElem?_cons_succ, List.getElem?_cons_zero, Option.bind_some, ↓reduceIte, Nat.reduceLT, Nat.reduceEqDiff, Nat.zero_add, Nat.add_zero, Nat.add_one_ne_zero, Int.toNat_natCast, Bool.not_true, decide_true, decide_false, true_and, wrap_i64, Tryd.sz3, Tryd.ag3, Tryd.underlying22, Tryd.sz22, Tryd.ag22, Tryd.fd24f1, Tryd.sz33, Tryd.fd33f0, eX, e0, hk1, gk, e1]
          (repeat (refine ⟨by first | omega | (refine ⟨?_, ?_⟩ <;> omega) | trivial | (simp; done) | decide +kernel, fun _ => ?_⟩))
          refine hκ.runA 9 300 ?_
          simp (disch := omega) only [runR_next, runR_fork_false, stepS, condS, ev, Env.get, OutOK_stop, halt, isAt, atC, execA_succ, ↓reduceIte, beq_self_eq_true, gl0]
          exact hj.less (by repeat' (first | exact EnvSub.nil _ | exact HeapSub.nil _ | refine EnvSub.cons rfl ?_ | refine HeapSub.cons rfl ?_ | (refine EnvSub.cons (by simp [Env.get]; done) ?_) | (refine HeapSub.cons (by simp [Heap.get]; done) ?_))) (by repeat' (first | exact EnvSub.nil _ | exact HeapSub.nil _ | refine EnvSub.cons rfl ?_ | refine HeapSub.cons rfl ?_ | (refine EnvSub.cons (by simp [Env.get]; done) ?_) | (refine HeapSub.cons (by simp [Heap.get]; done) ?_)))
      intro _ hord
      rw [hs, hord, Bool.true_and, Bool.true_and] at hno hyes
      refine hκ.run 300 ?_
      simp (disch := omega) only [exec_succ, runR_next, runR_stop, stepS, runOp, toSR, sop, rOf, ev, OutOK_stop, List.size_toArray, List.length_cons, List.length_nil, List.range, List.range.loop, List.getElem?_toArray, List.getElem?_cons_zero, ↓reduceIte, Nat.reduceLT, Nat.zero_add, gl0]
      refine Sat.less (Sat.loop (γ := Nat) (fun j => ([(6, I j), (5, I ((l.take j).countP (sameB x) : Nat)), (4, .ptr 1 0 0 0), (3, I k), (1, .ptr 0 0 0 0)], [(1, BX x), (0, .own [I t, Xs l] 24)], 2)) (fun j => l.length - j) (fun j => j ≤ l.length ∧ ∀ y ∈ l.take j, sameB x y = true → alikeB x y = true) ?round2 0 ⟨Nat.zero_le _, fun y hy => by cases hy⟩) (by repeat' (first | exact EnvSub.nil _ | exact HeapSub.nil _ | refine EnvSub.cons rfl ?_ | refine HeapSub.cons rfl ?_ | (refine EnvSub.cons (by simp [Env.get]; done) ?_) | (refine HeapSub.cons (by simp [Heap.get]; done) ?_))) (by repeat' (first | exact EnvSub.nil _ | exact HeapSub.nil _ | refine EnvSub.cons rfl ?_ | refine HeapSub.cons rfl ?_ | (refine EnvSub.cons (by simp [Env.get]; done) ?_) | (refine HeapSub.cons (by simp [Heap.get]; done) ?_)))
      case round2 =>
        rintro j ⟨hj2, hal⟩ ih2
        dsimp only at hj2 hal ih2 ⊢
        refine hκ.run 300 ?_
        simp (disch := omega) only [sBuiltin, exec_succ, runR_next, stepS, runOp, condS, toSR, sop, rOf, sLoadIn, sLoad, sInt, sBin, sFieldAddr, sLen, ev, Env.get, Heap.get, takeN, cut, aggOf, List.size_toArray, List.length_cons, List.length_nil, List.length_map, List.range, List.range.loop, List.getElem?_toArray, List.getElem?_cons_succ, List.getElem?_cons_zero, ↓reduceIte, Nat.reduceAdd, Nat.reduceLT, Nat.reduceEqDiff, Nat.zero_add, Nat.add_one_ne_zero, gl0, Tryd.underlying22, Tryd.sz22, Tryd.ag22, Tryd.fd24f1]
        refine OutOK_fork (fun h => ?_) (fun h => ?_) <;> try simp only [Bool.not_true, Bool.not_false, decide_eq_true_eq, decide_eq_false_iff_not, Bool.not_eq_true', Bool.not_eq_false', Bool.and_eq_true, Bool.or_eq_false_iff, Bool.or_eq_true, Bool.and_eq_false_iff] at h
        · have hym := getD_mem (show j < l.length by omega)
          have hy := hl _ hym
          have hz2 := fun h => ih2 (j + 1) ⟨by omega, h⟩ (by omega)
          have hc := List.countP_le_length (p := sameB x) (l := l.take j)
          rw [List.length_take] at hc
          rw [countP_take (by omega), take_getD (by omega)] at hz2
          generalize (l.take j).countP (sameB x) = c at hz2 hc ⊢
          have hal2 : ∀ {y}, (sameB x y = true → alikeB x y = true) → ∀ z ∈ l.take j ++ [y], sameB x z = true → alikeB x z = true := fun h z hz => by
            rcases List.mem_append.1 hz with hz | hz
            · exact hal z hz
            · obtain rfl := List.mem_singleton.1 hz
              exact h
          simp (disch := omega) only [exec_succ, runR_next, runR_need, stepS, runOp, condS, toSR, sop, rOf, rNew, sAlloc, sAlloc0, sLoadIn, sLoad, sStoreIn, sStore, sInt, sBin, sFieldAddr, sIndexAddr, elemT, obind, ev, svs, Env.get, Heap.get, Heap.set, takeN, cut, over, paste, aggOf, cellsS, one, ones, Value.oneCell', OutOK_need, undefS, undef, List.size_toArray, List.length_cons, List.length_nil, List.length_map, List.range, List.range.loop, List.getElem?_toArray, List.getElem?_cons_succ, List.getElem?_cons_zero, List.map_cons, List.map_nil, ↓reduceIte, Nat.reduceAdd, Nat.reduceLT, Nat.reduceEqDiff, Nat.zero_add, Nat.mul_zero, Nat.add_one_ne_zero, Int.toNat_natCast, true_and, and_self, forall_const, getD_map, Tryd.sz3, Tryd.ag3, Tryd.underlying22, Tryd.sz22, Tryd.ag22, Tryd.fd24f1, Tryd.sz33, Tryd.ag33, Tryd.ze33, Tryd.ar33, Tryd.fd33f1, eX, eX]
          (repeat (refine ⟨by first | omega | (refine ⟨?_, ?_⟩ <;> omega) | trivial | (simp; done) | decide +kernel, fun _ => ?_⟩))
          generalize l.getD j default = y at hym hy hz2 ⊢
          have hcl := fun h1 h2 => cnt_lt (x := x) hym h1 h2
          by_cases g0 : y.d = x.d
          case neg =>
            have hsf : sameB x y = false := decide_eq_false g0
            rw [hsf, if_neg (by decide), Nat.add_zero] at hz2
            have hy2 := hz2 (hal2 fun h => by rw [hsf] at h; cases h)
            simp (disch := omega) only [exec_succ, runR_next, runR_fork_true, runR_stop, stepS, runOp, goS, toSR, sop, rOf, sInt, sBin, ev, Env.get, exitTo, OutOK_stop, List.size_toArray, List.length_cons, List.length_nil, List.range, List.range.loop, List.getElem?_toArray, List.getElem?_cons_succ, List.getElem?_cons_zero, ↓reduceIte, Nat.reduceAdd, Nat.reduceLT, Nat.reduceEqDiff, Nat.zero_add, Bool.not_false, decide_false, beq_self_eq_true, wrap_i64, g0]
            refine Sat.via (fun i => i) (hy2) (by intro i j; (repeat (first | omega | split))) (by repeat' (first | exact EnvVia.nil | refine EnvVia.cons (by first | trivial | decide | (simp [SV.bnd, SV.bndL]; done)) rfl ?_)) (by repeat' (first | exact HeapVia.nil | refine HeapVia.cons (by decide) (by first | trivial | (simp [Blk.bnd, SV.bnd, SV.bndL]; done) | exact bndL_mapV _ _ _ | exact LR.bnd (by rw [l2]; simp [bndE, SV.bnd, SV.bndL]) (by rw [l6]; decide)) (by first | rfl | (simp only [Blk.ren, renL_mapV]; rfl) | (rw [LR.ren (by rw [l2] <;> rfl) (by rw [l6] <;> rfl)]; rfl)) ?_)) ⟨by have := hκ.hm; (try dsimp only at this); (first | done | omega), fun i hi => by have := hκ.hm; (try dsimp only at this); (first | omega | (dsimp only; omega) | (rw [if_neg (by omega)]))⟩ ⟨by simp, rfl⟩
          have hst : sameB x y = true := decide_eq_true g0
          rw [hst, if_pos rfl] at hz2
          have g0t : (y.d = x.d) = True := by first | (simp only [eq_iff_iff, iff_true]; first | assumption | omega) | (simp; omega)
          have hbad : alikeB x y = false → rightM (t, l) = false := fun h => hno (by
            have := hcl hst h
            rw [Bool.and_eq_false_iff, decide_eq_false_iff_not, decide_eq_false_iff_not]
            omega)
          by_cases g1 : y.w = x.w
          case neg =>
            rw [hbad (by rw [alikeB, decide_eq_false g1, Bool.false_and, Bool.and_false])] at hκ
            simp (disch := omega) only [exec_succ, runR_next, runR_fork_true, runR_fork_false, runR_guard_tf, runR_stop, stepS, runOp, guardS, condS, toSR, sop, rOf, sPick, sLoadIn, sLoad, sInt, sEq, sEqR, sBin, sFieldAddr, ev, Env.get, Heap.get, takeN, cut, aggOf, OutOK_stop, undefS, undef, List.size_toArray, List.length_cons, List.length_nil, List.range, List.range.loop, List.getElem?_toArray, List.getElem?_cons_succ, List.getElem?_cons_zero, Option.bind_some, ↓reduceIte, Nat.reduceAdd, Nat.reduceLT, Nat.reduceEqDiff, Nat.zero_add, Nat.mul_zero, Nat.add_one_ne_zero, Bool.not_true, Bool.not_false, decide_true, decide_false, and_self, wrap_i64, Tryd.sz3, Tryd.ag3, Tryd.fd33f10, Tryd.fd33f8, Tryd.fd33f9, g0t, g1, eX]
            refine hκ.ret _ _ _ _ _ _ trivial rfl ?_
            exact .ret trivial
          have g1t : (y.w = x.w) = True := by first | (simp only [eq_iff_iff, iff_true]; first | assumption | omega) | (simp; omega)
          by_cases g2 : y.n = x.n
          case neg =>
            rw [hbad (by rw [alikeB, decide_eq_false g2, Bool.false_and, Bool.and_false, Bool.and_false])] at hκ
            simp (disch := omega) only [exec_succ, runR_next, runR_fork_true, runR_fork_false, runR_guard_ff, runR_guard_tf, runR_stop, stepS, runOp, guardS, condS, toSR, sop, rOf, sPick, sLoadIn, sLoad, sInt, sEq, sEqR, sBin, sFieldAddr, ev, Env.get, Heap.get, takeN, cut, aggOf, OutOK_stop, undefS, undef, List.size_toArray, List.length_cons, List.length_nil, List.range, List.range.loop, List.getElem?_toArray, List.getElem?_cons_succ, List.getElem?_cons_zero, Option.bind_some, ↓reduceIte, Nat.reduceAdd, Nat.reduceLT, Nat.reduceEqDiff, Nat.zero_add, Nat.mul_zero, Nat.add_one_ne_zero, Bool.not_true, Bool.not_false, decide_true, decide_false, and_self, wrap_i64, Tryd.sz3, Tryd.ag3, Tryd.fd33f10, Tryd.fd33f8, Tryd.fd33f9, g0t, g1t, g2, eX]
            refine hκ.ret _ _ _ _ _ _ trivial rfl ?_
            exact .ret trivial
          have g2t : (y.n = x.n) = True := by first | (simp only [eq_iff_iff, iff_true]; first | assumption | omega) | (simp; omega)
          by_cases g3 : y.a = x.a
          case neg =>
            rw [hbad (by rw [alikeB, decide_eq_false g3, Bool.and_false, Bool.and_false, Bool.and_false])] at hκ
            simp (disch := omega) only [exec_succ, runR_next, runR_fork_true, runR_fork_false, runR_guard_ff, runR_stop, stepS, runOp, guardS, condS, toSR, sop, rOf, sPick, sLoadIn, sLoad, sInt, sBin, sFieldAddr, ev, Env.get, Heap.get, takeN, cut, aggOf, OutOK_stop, undefS, undef, List.size_toArray, List.length_cons, List.length_nil, List.range, List.range.loop, List.getElem?_toArray, List.getElem?_cons_succ, List.getElem?_cons_zero, Option.bind_some, ↓reduceIte, Nat.reduceAdd, Nat.reduceLT, Nat.reduceEqDiff, Nat.zero_add, Nat.mul_zero, Nat.add_one_ne_zero, Bool.not_true, Bool.not_false, decide_true, decide_false, and_self, wrap_i64, Tryd.sz3, Tryd.ag3, Tryd.fd33f10, Tryd.fd33f8, Tryd.fd33f9, g0t, g1t, g2t, g3, eX]
            refine hκ.ret _ _ _ _ _ _ trivial rfl ?_
            exact .ret trivial
          have g3t : (y.a = x.a) = True := by first | (simp only [eq_iff_iff, iff_true]; first | assumption | omega) | (simp; omega)
          have hy2 := hz2 (hal2 fun _ => by rw [alikeB, hst, decide_eq_true g1, decide_eq_true g2, decide_eq_true g3]; rfl)
          simp (disch := omega) only [exec_succ, runR_next, runR_fork_false, runR_guard_ff, runR_stop, stepS, runOp, guardS, condS, toSR, sop, rOf, sPick, sLoadIn, sLoad, sInt, sBin, sFieldAddr, ev, Env.get, Heap.get, takeN, cut, aggOf, OutOK_stop, undefS, undef, List.size_toArray, List.length_cons, List.length_nil, List.range, List.range.loop, List.getElem?_toArray, List.getElem?_cons_succ, List.getElem?_cons_zero, Option.bind_some, ↓reduceIte, Nat.reduceAdd, Nat.reduceLT, Nat.reduceEqDiff, Nat.zero_add, Nat.mul_zero, Nat.add_one_ne_zero, Bool.not_true, Bool.not_false, decide_true, and_self, wrap_i64, Tryd.sz3, Tryd.ag3, Tryd.fd33f10, Tryd.fd33f8, Tryd.fd33f9, g0t, g1t, g2t, g3t, eX]
          simp only [List.length_append, List.length_cons, List.length_nil, List.length_singleton, List.length_map, List.length_set, List.length_replicate, Nat.zero_add, Nat.add_zero, Int.natCast_add, Int.natCast_one, Int.ofNat_eq_natCast, List.map_append, List.map_cons, List.map_nil, List.take_length, eI, eB] at hy2 ⊢
          refine Sat.via (fun i => i) (hy2) (by intro i j; (repeat (first | omega | split))) (by repeat' (first | exact EnvVia.nil | refine EnvVia.cons (by first | trivial | decide | (simp [SV.bnd, SV.bndL]; done)) rfl ?_)) (by repeat' (first | exact HeapVia.nil | refine HeapVia.cons (by decide) (by first | trivial | (simp [Blk.bnd, SV.bnd, SV.bndL]; done) | exact bndL_mapV _ _ _ | exact LR.bnd (by rw [l2]; simp [bndE, SV.bnd, SV.bndL]) (by rw [l6]; decide)) (by first | rfl | (simp only [Blk.ren, renL_mapV]; rfl) | (rw [LR.ren (by rw [l2] <;> rfl) (by rw [l6] <;> rfl)]; rfl)) ?_)) ⟨by have := hκ.hm; (try dsimp only at this); (first | done | omega), fun i hi => by have := hκ.hm; (try dsimp only at this); (first | omega | (dsimp only; omega) | (rw [if_neg (by omega)]))⟩ ⟨by simp, rfl⟩
        · obtain rfl : j = l.length := by omega
          rw [List.take_length] at hal ⊢
          rw [cnt_all hal, Bool.and_self] at hno hyes
          by_cases g1 : ((l.countP (sameB x) : Nat) : Int) = x.n
          · have hy := hz (hyes (decide_eq_true g1))
            have g1t : (((l.countP (sameB x) : Nat) : Int) = x.n) = True := by first | (simp only [eq_iff_iff, iff_true]; first | assumption | omega) | (simp; omega)
            simp (disch := omega) only [exec_succ, runR_next, runR_fork_false, runR_stop, stepS, runOp, condS, goS, toSR, sop, rOf, sLoadIn, sLoad, sInt, sBin, sFieldAddr, ev, Env.get, Heap.get, takeN, cut, aggOf, exitTo, OutOK_stop, List.size_toArray, List.length_cons, List.length_nil, List.range, List.range.loop, List.getElem?_toArray, List.getElem?_cons_succ, List.getElem?_cons_zero, ↓reduceIte, Nat.reduceAdd, Nat.reduceLT, Nat.reduceEqDiff, Nat.zero_add, Nat.mul_zero, Nat.add_one_ne_zero, Bool.not_true, decide_true, beq_self_eq_true, wrap_i64, Tryd.sz3, Tryd.ag3, Tryd.fd33f9, g1t, eX, eX]
            refine Sat.via (fun i => i) (hy) (by intro i j; (repeat (first | omega | split))) (by repeat' (first | exact EnvVia.nil | refine EnvVia.cons (by first | trivial | decide | (simp [SV.bnd, SV.bndL]; done)) rfl ?_)) (by repeat' (first | exact HeapVia.nil | refine HeapVia.cons (by decide) (by first | trivial | (simp [Blk.bnd, SV.bnd, SV.bndL]; done) | exact bndL_mapV _ _ _ | exact LR.bnd (by rw [l2]; simp [bndE, SV.bnd, SV.bndL]) (by rw [l6]; decide)) (by first | rfl | (simp only [Blk.ren, renL_mapV]; rfl) | (rw [LR.ren (by rw [l2] <;> rfl) (by rw [l6] <;> rfl)]; rfl)) ?_)) ⟨by have := hκ.hm; (try dsimp only at this); (first | done | omega), fun i hi => by have := hκ.hm; (try dsimp only at this); (first | omega | (dsimp only; omega) | (rw [if_neg (by omega)]))⟩ ⟨by simp, rfl⟩
          · rw [hno (decide_eq_false g1)] at hκ
            simp (disch := omega) only [exec_succ, runR_next, runR_fork_true, runR_stop, stepS, runOp, condS, goS, toSR, sop, rOf, sLoadIn, sLoad, sInt, sBin, sFieldAddr, ev, Env.get, Heap.get, takeN, cut, aggOf, exitTo, OutOK_stop, List.size_toArray, List.length_cons, List.length_nil, List.range, List.range.loop, List.getElem?_toArray, List.getElem?_cons_succ, List.getElem?_cons_zero, ↓reduceIte, Nat.reduceAdd, Nat.reduceLT, Nat.reduceEqDiff, Nat.zero_add, Nat.mul_zero, Nat.add_one_ne_zero, Bool.not_false, decide_false, beq_self_eq_true, Tryd.sz3, Tryd.ag3, Tryd.fd33f9, g1, eX, eX]
            refine hκ.ret _ _ _ _ _ _ trivial rfl ?_
            exact .ret trivial
    · simp (disch := omega) only [runR_next, runR_stop, stepS, runOp, goS, toSR, sop, rOf, ev, exitTo, OutOK_stop, halt, isDraw, drawC, execD_succ, List.size_toArray, List.length_cons, List.length_nil, List.range, List.range.loop, List.getElem?_toArray, List.getElem?_cons_zero, ↓reduceIte, Nat.reduceLT, Nat.zero_add, beq_self_eq_true]
      obtain rfl : k = l.length := by omega
      rw [rightM_all (m := (t, l)) hj, show inI t 0 1125899906842624 = true from (inI_iff ..).2 (by omega)] at hκ
      refine hκ.ret _ _ _ _ _ _ trivial rfl ?_
      exact .ret trivial
end Go.Proofs.YtbjhphjpdeblnaaDoor
