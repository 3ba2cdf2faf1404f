/- Watches that may be. No condition. -/
import Derived.Test.YtbjhphjpdeblnaaAc
namespace Go.Proofs.Ytbjhphjpdeblnaa
open Go Go.Sy
set_option maxRecDepth 100000
set_option linter.unusedSimpArgs false
set_option linter.unusedVariables false

/-- May the moment at a place stand there? -/
def frW (ms : List Mo) (en : Int) (k : Nat) : Bool := rightM (ms.getD k default) && (decide ((ms.getD k default).1 ≤ en) && (decide (k = 0) || decide ((ms.getD (k - 1) default).1 < (ms.getD k default).1)))
/-- May a watch be? -/
def rightW (ms : List Mo) (en : Int) : Bool := (decide (ms.length ≤ 2000) && inI en 0 1125899906842624) && (List.range ms.length).all (frW ms en)
theorem rightW_no {ms : List Mo} {en : Int} {k : Nat} (hk : k < ms.length) (h : frW ms en k = false) : rightW ms en = false := by
  rw [rightW, show (List.range ms.length).all (frW ms en) = false from List.all_eq_false.2 ⟨k, List.mem_range.2 hk, by rw [h]; simp⟩, Bool.and_false]
theorem rightW_yes {ms : List Mo} {en : Int} (h0 : ms.length ≤ 2000) (h1 : inI en 0 1125899906842624 = true) (h : ∀ k, k < ms.length → frW ms en k = true) : rightW ms en = true := by
  rw [rightW, decide_eq_true h0, h1, show (List.range ms.length).all (frW ms en) = true from List.all_eq_true.2 fun k hk => h k (List.mem_range.1 hk)]; rfl
theorem wcheck_ok (ms : List Mo) (en : Int) (hf : ∀ m ∈ ms, inM m) (he : i64 en) (hn : ms.length < 2 ^ 40) : Con Try.prog gl0 (fnv 14) [Wt ms en] 0 [] (Ret (if rightW ms en = true then I 0 else I 390)) := by
  refine Con.of Try.ok14 (nt := 54) (res := [.tmp 2]) Try.mixed Try.func14 rfl rfl rfl rfl fun κ xc hκ => hκ.run 300 ?_
  simp (disch := omega) only [sBuiltin, exec_succ, runR_next, stepS, runOp, guardS, toSR, sop, rOf, rNew, sBox, isArr, sLoadIn, sLoad, sInt, sBin, sFieldAddr, sLen, ev, Env.get, Heap.get, takeN, cut, aggOf, cellsS, envOf, undefS, undef, Bool.false_eq_true, List.size_toArray, List.length_cons, List.length_nil, List.length_map, List.range, List.range.loop, List.getElem?_toArray, List.getElem?_cons_succ, List.getElem?_cons_zero, Option.bind_some, ↓reduceIte, Nat.reduceAdd, Nat.reduceLT, Nat.reduceEqDiff, Nat.zero_add, Nat.add_zero, Nat.add_one_ne_zero, Bool.not_false, and_self, gl0, Try.underlying22, Try.sz22, Try.ag22, Try.fd24f0, Try.fd24f1]
  by_cases q0 : (2000 : Int) < ms.length
  · rw [show rightW ms en = false by rw [rightW, decide_eq_false (by omega)]; rfl] at hκ
    simp (disch := omega) only [exec_succ, runR_next, runR_fork_true, runR_guard_tf, runR_stop, stepS, runOp, guardS, condS, toSR, sop, rOf, sPick, sLoad, sBin, sFieldAddr, ev, Env.get, OutOK_stop, undefS, undef, List.size_toArray, List.length_cons, List.length_nil, List.range, List.range.loop, List.getElem?_toArray, List.getElem?_cons_succ, List.getElem?_cons_zero, Option.bind_some, ↓reduceIte, Nat.reduceLT, Nat.reduceEqDiff, Nat.zero_add, Nat.add_one_ne_zero, Bool.not_false, decide_true, and_self, Try.fd24f1, q0]
    refine hκ.ret _ _ _ _ _ _ trivial rfl ?_
    exact .ret trivial
  by_cases q1 : en < 0
  · rw [show rightW ms en = false by rw [rightW, show inI en 0 1125899906842624 = false by rw [inI, decide_eq_false (by omega)]; rfl, Bool.and_false, Bool.false_and]] at hκ
    simp (disch := omega) only [exec_succ, runR_next, runR_fork_true, runR_guard_ff, runR_guard_tf, runR_stop, stepS, runOp, guardS, condS, toSR, sop, rOf, sPick, sLoadIn, sLoad, sInt, sBin, sFieldAddr, ev, Env.get, Heap.get, takeN, cut, aggOf, OutOK_stop, undefS, undef, List.size_toArray, List.length_cons, List.length_nil, List.range, List.range.loop, List.getElem?_toArray, List.getElem?_cons_succ, List.getElem?_cons_zero, Option.bind_some, ↓reduceIte, Nat.reduceLT, Nat.reduceEqDiff, Nat.zero_add, Nat.add_one_ne_zero, Bool.not_false, decide_true, decide_false, and_self, Try.sz2, Try.ag2, Try.fd24f1, q0, q1]
    refine hκ.ret _ _ _ _ _ _ trivial rfl ?_
    exact .ret trivial
  by_cases q2 : (1125899906842624 : Int) < en
  · rw [show rightW ms en = false by rw [rightW, show inI en 0 1125899906842624 = false by rw [inI, decide_eq_false (show ¬ en ≤ 1125899906842624 by omega), Bool.and_false], Bool.and_false, Bool.false_and]] at hκ
    simp (disch := omega) only [exec_succ, runR_next, runR_fork_true, runR_guard_ff, runR_stop, stepS, runOp, guardS, condS, toSR, sop, rOf, sPick, sLoadIn, sLoad, sInt, sBin, sFieldAddr, ev, Env.get, Heap.get, takeN, cut, aggOf, OutOK_stop, undefS, undef, List.size_toArray, List.length_cons, List.length_nil, List.range, List.range.loop, List.getElem?_toArray, List.getElem?_cons_succ, List.getElem?_cons_zero, Option.bind_some, ↓reduceIte, Nat.reduceLT, Nat.reduceEqDiff, Nat.zero_add, Nat.add_one_ne_zero, Bool.not_false, decide_true, decide_false, and_self, Try.sz2, Try.ag2, Try.fd24f1, q0, q1, q2]
    refine hκ.ret _ _ _ _ _ _ trivial rfl ?_
    exact .ret trivial
  simp (disch := omega) only [sBuiltin, exec_succ, runR_next, runR_fork_false, runR_guard_ff, runR_stop, stepS, runOp, guardS, condS, toSR, sop, rOf, sPick, sLoadIn, sLoad, sInt, sBin, sFieldAddr, sLen, ev, Env.get, Heap.get, takeN, cut, aggOf, OutOK_stop, undefS, undef, List.size_toArray, List.length_cons, List.length_nil, List.length_map, List.range, List.range.loop, List.getElem?_toArray, List.getElem?_cons_succ, List.getElem?_cons_zero, Option.bind_some, ↓reduceIte, Nat.reduceAdd, Nat.reduceLT, Nat.reduceEqDiff, Nat.zero_add, Nat.add_zero, Nat.add_one_ne_zero, Bool.not_false, decide_false, and_self, Try.sz2, Try.ag2, Try.underlying22, Try.sz22, Try.ag22, Try.fd24f0, Try.fd24f1, q0, q1, q2]
  have hin : inI en 0 1125899906842624 = true := (inI_iff ..).2 (by omega)
  refine Sat.less (Sat.loop (γ := Nat) (fun k => ([(22, I k), (21, I ms.length), (20, Ms ms), (1, .ptr 0 0 0 0)], [(0, .own [Ms ms, I en] 24)], 1)) (fun k => ms.length - k) (fun k => k ≤ ms.length ∧ ∀ j, j < k → frW ms en j = true) ?round 0 ⟨Nat.zero_le _, fun j hj => by omega⟩) (by repeat' (first | exact EnvSub.nil _ | exact HeapSub.nil _ | refine EnvSub.cons rfl ?_ | refine HeapSub.cons rfl ?_ | (refine EnvSub.cons (by simp [Env.get]; done) ?_) | (refine HeapSub.cons (by simp [Heap.get]; done) ?_))) (by repeat' (first | exact EnvSub.nil _ | exact HeapSub.nil _ | refine EnvSub.cons rfl ?_ | refine HeapSub.cons rfl ?_ | (refine EnvSub.cons (by simp [Env.get]; done) ?_) | (refine HeapSub.cons (by simp [Heap.get]; done) ?_)))
  case round =>
    rintro k ⟨hk, hj⟩ ih
    dsimp only at hk hj ih ⊢
    refine hκ.runD 300 ?_
    simp (disch := omega) only [runR_next, stepS, runOp, condS, toSR, sop, sInt, sBin, ev, Env.get, halt, isDraw, drawC, execD_succ, List.size_toArray, List.length_cons, List.length_nil, List.range, List.range.loop, List.getElem?_toArray, List.getElem?_cons_zero, ↓reduceIte, Nat.reduceLT, Nat.reduceEqDiff, Nat.zero_add, gl0]
    refine OutOK_fork (fun h => ?_) (fun h => ?_) <;> try simp only [Bool.not_true, Bool.not_false, decide_eq_true_eq, decide_eq_false_iff_not, Bool.not_eq_true', Bool.not_eq_false', Bool.and_eq_true, Bool.or_eq_false_iff, Bool.or_eq_true, Bool.and_eq_false_iff] at h
    · have hm := hf _ (getD_mem (show k < ms.length by omega))
      have hz := fun h => ih (k + 1) ⟨by omega, h⟩ (by omega)
      have hno : frW ms en k = false → rightW ms en = false := fun h => rightW_no (by omega) h
      have hyes : frW ms en k = true → ∀ j, j < k + 1 → frW ms en j = true := fun h j hj2 => by
        by_cases e : j = k
        · rw [e]; exact h
        · exact hj j (by omega)
      rw [frW] at hno hyes
      have c1 := right_ok _ hm
      simp (disch := omega) only [runR_next, runR_need, stepS, runOp, toSR, sop, rOf, rNew, sAlloc, sAlloc0, sLoad, sStoreIn, sStore, sIndexAddr, elemT, obind, ev, svs, Env.get, Heap.get, Heap.set, takeN, cut, over, paste, aggOf, cellsS, one, ones, Value.oneCell', OutOK_need, OutOK_stop, undefS, undef, halt, isDraw, drawC, execD_succ, List.size_toArray, List.length_cons, List.length_nil, List.length_map, List.range, List.range.loop, List.getElem?_toArray, List.getElem?_cons_succ, List.getElem?_cons_zero, List.map_cons, List.map_nil, ↓reduceIte, Nat.reduceAdd, Nat.reduceLT, Nat.reduceEqDiff, Nat.zero_add, Int.toNat_natCast, true_and, and_self, forall_const, getD_map, Try.underlying22, Try.sz27, Try.ag27, Try.ze27, Try.ar27, eM]
      (try (repeat (refine ⟨by first | omega | (refine ⟨?_, ?_⟩ <;> omega) | trivial | (simp; done) | decide +kernel, fun _ => ?_⟩)))
      obtain ⟨⟨m1, m2⟩, hmm⟩ : ∃ m : Mo, ms.getD k default = m := ⟨_, rfl⟩
      simp only [hmm] at hm hno hyes c1
      obtain ⟨hm1, -, -⟩ := hm
      dsimp only at hm1
      have gk0 : (List.map eM ms).getD k [] = eM (m1, m2) := by rw [← hmm]; exact getD_map _ _ _ (by omega)
      simp (disch := omega) only [hmm]
      cases hs : rightM (m1, m2)
      · rw [hs] at c1 hno
        rw [hno rfl] at hκ
        refine hκ.draw (.q 0 (.l 1 [] (.q 2 (.q 3 (.q 4 (.q 5 (.q 6 (.q 7 (.q 8 (.q 9 (.q 10 (.q 11 (.q 12 (.q 13 (.q 14 (.q 15 (.q 16 (.q 17 (.q 18 (.q 19 (.q 20 (.q 21 (.q 22 (.q 23 (.q 24 (.q 25 (.fin))))))))))))))))))))))))))) [0, 2, 3, 4, 5, 6, 7, 8, 9, 10, 11, 12, 13, 14, 15, 16, 17, 18, 19, 20, 21, 22, 23, 24, 25] (by kernel_rfl) (by kernel_rfl) rfl ?_
        simp (disch := omega) only [sop, rOf, sLoadIn, sLoad, ev, evs, Env.get, Heap.get, takeN, cut, aggOf, setO, drawP_q, drawP_l, dq, dqn, dl, guardP, R1Q, dstOK, loudP, List.getElem?_toArray, List.getElem?_cons_succ, List.getElem?_cons_zero, ↓reduceIte, Nat.reduceLT, Nat.reduceEqDiff, true_and, gl0, Try.sz27, Try.ag27]
        (try (repeat (refine ⟨by first | omega | (refine ⟨?_, ?_⟩ <;> omega) | trivial | (simp; done) | decide +kernel, fun _ => ?_⟩)))
        refine DCall.of (Does.ret hκ.hP hκ.hgl (c1) ⟨trivial, by simp [SV.bnd, SV.bndL], by first | (simp [SV.bnd, SV.bndL]; done) | assumption⟩ ?_)
        simp (disch := omega) only [sop, rOf, sPick, sUn, ev, Env.get, setO, drawP_fin, drawP_q, dnext, dq, dqn, GF.tf, guardP, R1Q, dstOK, again, undefS, undef, List.getElem?_toArray, List.getElem?_cons_succ, List.getElem?_cons_zero, Option.bind_some, ↓reduceIte, Nat.reduceLT, Nat.reduceEqDiff, Bool.not_false, true_and]
        refine hκ.run 300 ?_
        simp (disch := omega) only [exec_succ, runR_next, runR_fork_true, runR_stop, stepS, runOp, condS, toSR, sop, rOf, ev, Env.get, OutOK_stop, List.size_toArray, List.length_cons, List.length_nil, List.range, List.range.loop, List.getElem?_toArray, List.getElem?_cons_zero, ↓reduceIte, Nat.reduceLT, Nat.zero_add, gl0]
        refine hκ.ret _ _ _ _ _ _ trivial rfl ?_
        exact .ret trivial
      rw [hs] at c1 hno hyes
      by_cases g1 : en < m1
      · rw [hno (by rw [decide_eq_false (by omega)]; rfl)] at hκ
        refine hκ.draw (.q 0 (.l 1 [] (.q 2 (.q 3 (.q 4 (.q 5 (.q 6 (.q 7 (.q 8 (.q 9 (.q 10 (.q 11 (.q 12 (.q 13 (.q 14 (.q 15 (.q 16 (.q 17 (.q 18 (.q 19 (.q 20 (.q 21 (.q 22 (.q 23 (.q 24 (.q 25 (.fin))))))))))))))))))))))))))) [0, 2, 3, 4, 5, 6, 7, 8, 9, 10, 11, 12, 13, 14, 15, 16, 17, 18, 19, 20, 21, 22, 23, 24, 25] (by kernel_rfl) (by kernel_rfl) rfl ?_
        simp (disch := omega) only [sop, rOf, sLoadIn, sLoad, ev, evs, Env.get, Heap.get, takeN, cut, aggOf, setO, drawP_q, drawP_l, dq, dqn, dl, guardP, R1Q, dstOK, loudP, List.getElem?_toArray, List.getElem?_cons_succ, List.getElem?_cons_zero, ↓reduceIte, Nat.reduceLT, Nat.reduceEqDiff, true_and, gl0, Try.sz27, Try.ag27]
        (try (repeat (refine ⟨by first | omega | (refine ⟨?_, ?_⟩ <;> omega) | trivial | (simp; done) | decide +kernel, fun _ => ?_⟩)))
        refine DCall.of (Does.ret hκ.hP hκ.hgl (c1) ⟨trivial, by simp [SV.bnd, SV.bndL], by first | (simp [SV.bnd, SV.bndL]; done) | assumption⟩ ?_)
        simp (disch := omega) only [sop, rOf, sPick, sLoadIn, sLoad, sInt, sBin, sUn, sFieldAddr, ev, Env.get, Heap.get, takeN, cut, aggOf, setO, drawP_q, dnext, dq, dqn, GF.ff, guardP, R1Q, dstOK, again, List.getElem?_toArray, List.getElem?_cons_succ, List.getElem?_cons_zero, Option.bind_some, ↓reduceIte, Nat.reduceLT, Nat.reduceEqDiff, Nat.zero_add, Nat.add_zero, Nat.add_one_ne_zero, Bool.not_true, true_and, Try.sz2, Try.ag2, Try.fd24f1, Try.fd27f0]
        simp (disch := omega) only [sop, rOf, sPick, ev, Env.get, setO, drawP_fin, drawP_q, dq, dqn, GF.tf, guardP, R1Q, dstOK, undefS, undef, List.getElem?_toArray, List.getElem?_cons_succ, List.getElem?_cons_zero, Option.bind_some, ↓reduceIte, Nat.reduceLT, Nat.reduceEqDiff, decide_true, true_and, g1]
        (try (repeat (refine ⟨by first | omega | (refine ⟨?_, ?_⟩ <;> omega) | trivial | (simp; done) | decide +kernel, fun _ => ?_⟩)))
        refine hκ.run 300 ?_
        simp (disch := omega) only [exec_succ, runR_next, runR_fork_true, runR_stop, stepS, runOp, condS, toSR, sop, rOf, ev, Env.get, OutOK_stop, List.size_toArray, List.length_cons, List.length_nil, List.range, List.range.loop, List.getElem?_toArray, List.getElem?_cons_zero, ↓reduceIte, Nat.reduceLT, Nat.zero_add, gl0]
        refine hκ.ret _ _ _ _ _ _ trivial rfl ?_
        exact .ret trivial
      rw [decide_eq_true (show m1 ≤ en by omega)] at hno hyes
      by_cases h0 : k = 0
      · have e0 : ((0 : Int) < (k : Int)) = False := by simp only [eq_iff_iff, iff_false]; omega
        have hy := hz (hyes (by rw [decide_eq_true h0]; rfl))
        refine hκ.draw (.q 0 (.l 1 [] (.q 2 (.q 3 (.q 4 (.q 5 (.q 6 (.q 7 (.q 8 (.q 9 (.q 10 (.q 11 (.q 12 (.q 13 (.q 14 (.q 15 (.q 16 (.q 17 (.q 18 (.q 19 (.q 20 (.q 21 (.q 22 (.q 23 (.q 24 (.q 25 (.fin))))))))))))))))))))))))))) [0, 2, 3, 4, 5, 6, 7, 8, 9, 10, 11, 12, 13, 14, 15, 16, 17, 18, 19, 20, 21, 22, 23, 24, 25] (by kernel_rfl) (by kernel_rfl) rfl ?_
        simp (disch := omega) only [sop, rOf, sLoadIn, sLoad, ev, evs, Env.get, Heap.get, takeN, cut, aggOf, setO, drawP_q, drawP_l, dq, dqn, dl, guardP, R1Q, dstOK, loudP, List.getElem?_toArray, List.getElem?_cons_succ, List.getElem?_cons_zero, ↓reduceIte, Nat.reduceLT, Nat.reduceEqDiff, true_and, gl0, Try.sz27, Try.ag27]
        (try (repeat (refine ⟨by first | omega | (refine ⟨?_, ?_⟩ <;> omega) | trivial | (simp; done) | decide +kernel, fun _ => ?_⟩)))
        refine DCall.of (Does.ret hκ.hP hκ.hgl (c1) ⟨trivial, by simp [SV.bnd, SV.bndL], by first | (simp [SV.bnd, SV.bndL]; done) | assumption⟩ ?_)
        simp (disch := omega) only [sop, rOf, sPick, sLoadIn, sLoad, sInt, sBin, sUn, sFieldAddr, ev, Env.get, Heap.get, takeN, cut, aggOf, setO, drawP_q, dnext, dq, dqn, GF.ff, guardP, R1Q, dstOK, again, List.getElem?_toArray, List.getElem?_cons_succ, List.getElem?_cons_zero, Option.bind_some, ↓reduceIte, Nat.reduceLT, Nat.reduceEqDiff, Nat.zero_add, Nat.add_zero, Nat.add_one_ne_zero, Bool.not_true, true_and, Try.sz2, Try.ag2, Try.fd24f1, Try.fd27f0]
        simp (disch := omega) only [sop, rOf, sPick, sInt, sBin, ev, Env.get, setO, drawP_fin, drawP_q, dq, dqn, GF.ff, GF.ft, guardP, R1Q, dstOK, undefS, undef, List.getElem?_toArray, List.getElem?_cons_succ, List.getElem?_cons_zero, Option.bind_some, ↓reduceIte, Nat.reduceLT, Nat.reduceEqDiff, decide_false, true_and, g1, e0]
        (try (repeat (refine ⟨by first | omega | (refine ⟨?_, ?_⟩ <;> omega) | trivial | (simp; done) | decide +kernel, fun _ => ?_⟩)))
        refine hκ.run 300 ?_
        simp (disch := omega) only [exec_succ, runR_next, runR_fork_false, runR_stop, stepS, runOp, condS, toSR, sop, rOf, sInt, sBin, ev, Env.get, OutOK_stop, List.size_toArray, List.length_cons, List.length_nil, List.range, List.range.loop, List.getElem?_toArray, List.getElem?_cons_succ, List.getElem?_cons_zero, ↓reduceIte, Nat.reduceAdd, Nat.reduceLT, Nat.reduceEqDiff, Nat.zero_add, wrap_i64, gl0]
        refine Sat.via (fun i => i) (hy) (by intro i j; (repeat (first | omega | split))) (by repeat' (first | exact EnvVia.nil | refine EnvVia.cons (by first | trivial | decide | (simp [SV.bnd, SV.bndL]; done)) rfl ?_)) (by repeat' (first | exact HeapVia.nil | refine HeapVia.cons (by decide) (by first | trivial | (simp [Blk.bnd, SV.bnd, SV.bndL]; done) | exact bndL_mapV _ _ _ | exact LR.bnd (by rw [l2]; simp [bndE, SV.bnd, SV.bndL]) (by rw [l6]; decide)) (by first | rfl | (simp only [Blk.ren, renL_mapV]; rfl) | (rw [LR.ren (by rw [l2] <;> rfl) (by rw [l6] <;> rfl)]; rfl)) ?_)) ⟨by have := hκ.hm; (try dsimp only at this); (first | done | omega), fun i hi => by have := hκ.hm; (try dsimp only at this); (first | omega | (dsimp only; omega) | (rw [if_neg (by omega)]))⟩ ⟨by simp, rfl⟩
      · have e0 : ((0 : Int) < (k : Int)) = True := by simp only [eq_iff_iff, iff_true]; omega
        have hk1 : (k : Int) - 1 = ((k - 1 : Nat) : Int) := by omega
        have gk : (List.map eM ms).getD (k - 1) [] = eM (ms.getD (k - 1) default) := getD_map _ _ _ (by omega)
        obtain ⟨hmp, -, -⟩ := hf _ (getD_mem (show k - 1 < ms.length by omega))
        by_cases h1 : (ms.getD (k - 1) default).1 < m1
        · have hy := hz (hyes (by rw [decide_eq_true h1]; simp))
          have e1 : (m1 ≤ (ms.getD (k - 1) default).1) = False := by first | (simp only [eq_iff_iff, iff_false]; first | assumption | omega) | (simp; omega)
          refine hκ.draw (.q 0 (.l 1 [] (.q 2 (.q 3 (.q 4 (.q 5 (.q 6 (.q 7 (.q 8 (.q 9 (.q 10 (.q 11 (.q 12 (.q 13 (.q 14 (.q 15 (.q 16 (.q 17 (.q 18 (.q 19 (.q 20 (.q 21 (.q 22 (.q 23 (.q 24 (.q 25 (.fin))))))))))))))))))))))))))) [0, 2, 3, 4, 5, 6, 7, 8, 9, 10, 11, 12, 13, 14, 15, 16, 17, 18, 19, 20, 21, 22, 23, 24, 25] (by kernel_rfl) (by kernel_rfl) rfl ?_
          simp (disch := omega) only [sop, rOf, sLoadIn, sLoad, ev, evs, Env.get, Heap.get, takeN, cut, aggOf, setO, drawP_q, drawP_l, dq, dqn, dl, guardP, R1Q, dstOK, loudP, List.getElem?_toArray, List.getElem?_cons_succ, List.getElem?_cons_zero, ↓reduceIte, Nat.reduceLT, Nat.reduceEqDiff, true_and, gl0, Try.sz27, Try.ag27]
          (try (repeat (refine ⟨by first | omega | (refine ⟨?_, ?_⟩ <;> omega) | trivial | (simp; done) | decide +kernel, fun _ => ?_⟩)))
          refine DCall.of (Does.ret hκ.hP hκ.hgl (c1) ⟨trivial, by simp [SV.bnd, SV.bndL], by first | (simp [SV.bnd, SV.bndL]; done) | assumption⟩ ?_)
          simp (disch := omega) only [sop, rOf, sPick, sLoadIn, sLoad, sInt, sBin, sUn, sFieldAddr, sIndexAddr, elemT, obind, ev, Env.get, Heap.get, takeN, cut, aggOf, setO, drawP_fin, drawP_q, dnext, dq, dqn, GF.tt, GF.ff, guardP, R1Q, dstOK, again, List.length_map, List.getElem?_toArray, List.getElem?_cons_succ, List.getElem?_cons_zero, Option.bind_some, ↓reduceIte, Nat.reduceLT, Nat.reduceEqDiff, Nat.zero_add, Nat.add_zero, Nat.add_one_ne_zero, Int.toNat_natCast, Bool.not_true, decide_true, decide_false, true_and, wrap_i64, Try.sz2, Try.ag2, Try.underlying22, Try.sz22, Try.ag22, Try.fd24f0, Try.fd24f1, Try.sz27, Try.fd27f0, eM, g1, e0, hk1, gk, e1]
          (try (repeat (refine ⟨by first | omega | (refine ⟨?_, ?_⟩ <;> omega) | trivial | (simp; done) | decide +kernel, fun _ => ?_⟩)))
          refine hκ.run 300 ?_
          simp (disch := omega) only [exec_succ, runR_next, runR_fork_false, runR_stop, stepS, runOp, condS, toSR, sop, rOf, sInt, sBin, ev, Env.get, OutOK_stop, List.size_toArray, List.length_cons, List.length_nil, List.range, List.range.loop, List.getElem?_toArray, List.getElem?_cons_succ, List.getElem?_cons_zero, ↓reduceIte, Nat.reduceAdd, Nat.reduceLT, Nat.reduceEqDiff, Nat.zero_add, wrap_i64, gl0]
          refine Sat.via (fun i => i) (hy) (by intro i j; (repeat (first | omega | split))) (by repeat' (first | exact EnvVia.nil | refine EnvVia.cons (by first | trivial | decide | (simp [SV.bnd, SV.bndL]; done)) rfl ?_)) (by repeat' (first | exact HeapVia.nil | refine HeapVia.cons (by decide) (by first | trivial | (simp [Blk.bnd, SV.bnd, SV.bndL]; done) | exact bndL_mapV _ _ _ | exact LR.bnd (by rw [l2]; simp [bndE, SV.bnd, SV.bndL]) (by rw [l6]; decide)) (by first | rfl | (simp only [Blk.ren, renL_mapV]; rfl) | (rw [LR.ren (by rw [l2] <;> rfl) (by rw [l6] <;> rfl)]; rfl)) ?_)) ⟨by have := hκ.hm; (try dsimp only at this); (first | done | omega), fun i hi => by have := hκ.hm; (try dsimp only at this); (first | omega | (dsimp only; omega) | (rw [if_neg (by omega)]))⟩ ⟨by simp, rfl⟩
        · rw [hno (by rw [decide_eq_false h1, decide_eq_false h0]; rfl)] at hκ
          have e1 : (m1 ≤ (ms.getD (k - 1) default).1) = True := by first | (simp only [eq_iff_iff, iff_true]; first | assumption | omega) | (simp; omega)
          refine hκ.draw (.q 0 (.l 1 [] (.q 2 (.q 3 (.q 4 (.q 5 (.q 6 (.q 7 (.q 8 (.q 9 (.q 10 (.q 11 (.q 12 (.q 13 (.q 14 (.q 15 (.q 16 (.q 17 (.q 18 (.q 19 (.q 20 (.q 21 (.q 22 (.q 23 (.q 24 (.q 25 (.fin))))))))))))))))))))))))))) [0, 2, 3, 4, 5, 6, 7, 8, 9, 10, 11, 12, 13, 14, 15, 16, 17, 18, 19, 20, 21, 22, 23, 24, 25] (by kernel_rfl) (by kernel_rfl) rfl ?_
          simp (disch := omega) only [sop, rOf, sLoadIn, sLoad, ev, evs, Env.get, Heap.get, takeN, cut, aggOf, setO, drawP_q, drawP_l, dq, dqn, dl, guardP, R1Q, dstOK, loudP, List.getElem?_toArray, List.getElem?_cons_succ, List.getElem?_cons_zero, ↓reduceIte, Nat.reduceLT, Nat.reduceEqDiff, true_and, gl0, Try.sz27, Try.ag27]
          (try (repeat (refine ⟨by first | omega | (refine ⟨?_, ?_⟩ <;> omega) | trivial | (simp; done) | decide +kernel, fun _ => ?_⟩)))
          refine DCall.of (Does.ret hκ.hP hκ.hgl (c1) ⟨trivial, by simp [SV.bnd, SV.bndL], by first | (simp [SV.bnd, SV.bndL]; done) | assumption⟩ ?_)
          simp (disch := omega) only [sop, rOf, sPick, sLoadIn, sLoad, sInt, sBin, sUn, sFieldAddr, sIndexAddr, elemT, obind, ev, Env.get, Heap.get, takeN, cut, aggOf, setO, drawP_fin, drawP_q, dnext, dq, dqn, GF.tt, GF.ff, guardP, R1Q, dstOK, again, List.length_map, List.getElem?_toArray, List.getElem?_cons_succ, List.getElem?_cons_zero, Option.bind_some, ↓reduceIte, Nat.reduceLT, Nat.reduceEqDiff, Nat.zero_add, Nat.add_zero, Nat.add_one_ne_zero, Int.toNat_natCast, Bool.not_true, decide_true, decide_false, true_and, wrap_i64, Try.sz2, Try.ag2, Try.underlying22, Try.sz22, Try.ag22, Try.fd24f0, Try.fd24f1, Try.sz27, Try.fd27f0, eM, g1, e0, hk1, gk, e1]
          (try (repeat (refine ⟨by first | omega | (refine ⟨?_, ?_⟩ <;> omega) | trivial | (simp; done) | decide +kernel, fun _ => ?_⟩)))
          refine hκ.run 300 ?_
          simp (disch := omega) only [exec_succ, runR_next, runR_fork_true, runR_stop, stepS, runOp, condS, toSR, sop, rOf, ev, Env.get, OutOK_stop, List.size_toArray, List.length_cons, List.length_nil, List.range, List.range.loop, List.getElem?_toArray, List.getElem?_cons_zero, ↓reduceIte, Nat.reduceLT, Nat.zero_add, gl0]
          refine hκ.ret _ _ _ _ _ _ trivial rfl ?_
          exact .ret trivial
    · simp (disch := omega) only [runR_next, runR_stop, stepS, runOp, goS, toSR, sop, rOf, ev, exitTo, OutOK_stop, halt, isDraw, drawC, execD_succ, List.size_toArray, List.length_cons, List.length_nil, List.range, List.range.loop, List.getElem?_toArray, List.getElem?_cons_zero, ↓reduceIte, Nat.reduceLT, Nat.zero_add, beq_self_eq_true]
      obtain rfl : k = ms.length := by omega
      rw [rightW_yes (by omega) hin hj] at hκ
      refine hκ.ret _ _ _ _ _ _ trivial rfl ?_
      exact .ret trivial
end Go.Proofs.Ytbjhphjpdeblnaa
