/- Traces: the reference's Until and On. No condition. -/
import Derived.Test.YtcpanpkhdcifoaaTg
namespace Go.Proofs.Ytcpanpkhdcifoaa
open Go Go.Sy
set_option maxRecDepth 100000
set_option linter.unusedSimpArgs false
set_option linter.unusedVariables false

/-- When a frame ends. -/
def untilT (fs : List Fr) (en : Int) (k : Nat) : Int := if k + 1 < fs.length then (fs.getD (k + 1) default).1 else en
theorem until_ok (fs : List Fr) (en : Int) (k : Nat) (hf : ∀ f ∈ fs, inFr f) (hk : k < fs.length) (hn : fs.length < 2 ^ 46) : Con Try.prog gl0 (fnv 42) [Tr fs en, I k] 0 [] (Ret (I (untilT fs en k))) := by
  refine Con.of Try.ok42 (nt := 20) (res := [.tmp 4]) Try.mixed Try.func42 rfl rfl rfl rfl fun κ xc hκ => hκ.run 300 ?_
  simp (disch := omega) only [sBuiltin, exec_succ, runR_next, stepS, runOp, condS, toSR, sop, rOf, rNew, sBox, isArr, sLoadIn, sLoad, sInt, sBin, sFieldAddr, sLen, ev, Env.get, Heap.get, takeN, cut, aggOf, cellsS, envOf, Bool.false_eq_true, List.size_toArray, List.length_cons, List.length_nil, List.length_map, List.range, List.range.loop, List.getElem?_toArray, List.getElem?_cons_succ, List.getElem?_cons_zero, ↓reduceIte, Nat.reduceAdd, Nat.reduceLT, Nat.reduceEqDiff, Nat.zero_add, Nat.add_zero, Nat.add_one_ne_zero, reduceCtorEq, wrap_i64, gl0, Try.underlying22, Try.sz22, Try.ag22, Try.fd24f0]
  (repeat (refine ⟨by first | omega | (refine ⟨?_, ?_⟩ <;> omega) | trivial | (simp; done) | decide +kernel, fun _ => ?_⟩))
  refine OutOK_fork (fun h => ?_) (fun h => ?_) <;> try simp only [Bool.not_true, Bool.not_false, decide_eq_true_eq, decide_eq_false_iff_not, Bool.not_eq_true', Bool.not_eq_false', Bool.and_eq_true, Bool.or_eq_false_iff, Bool.or_eq_true, Bool.and_eq_false_iff] at h
  · have hkk : ((k : Int) + 1).toNat = k + 1 := by omega
    simp (disch := omega) only [exec_succ, runR_next, runR_need, runR_stop, stepS, runOp, toSR, sop, rOf, sLoadIn, sLoad, sInt, sBin, sFieldAddr, sIndexAddr, elemT, obind, ev, Env.get, Heap.get, takeN, cut, aggOf, OutOK_need, OutOK_stop, List.size_toArray, List.length_cons, List.length_nil, List.length_map, List.range, List.range.loop, List.getElem?_toArray, List.getElem?_cons_succ, List.getElem?_cons_zero, ↓reduceIte, Nat.reduceAdd, Nat.reduceLT, Nat.reduceEqDiff, Nat.zero_add, Nat.add_zero, Nat.add_one_ne_zero, reduceCtorEq, getD_map, wrap_i64, Try.sz2, Try.ag2, Try.underlying22, Try.sz22, Try.ag22, Try.fd24f0, Try.sz58, Try.fd58f0, eF]
    (repeat (refine ⟨by first | omega | (refine ⟨?_, ?_⟩ <;> omega) | trivial | (simp; done) | decide +kernel, fun _ => ?_⟩))
    rw [hkk]
    refine hκ.run 300 ?_
    simp (disch := omega) only [exec_succ, runR_stop, stepS, OutOK_stop, gl0]
    refine hκ.ret _ _ _ _ _ _ trivial rfl ?_
    rw [untilT, if_pos (by omega)]
    exact .ret trivial
  · simp (disch := omega) only [exec_succ, runR_next, runR_stop, stepS, runOp, toSR, sop, rOf, sLoadIn, sLoad, sFieldAddr, ev, Env.get, Heap.get, takeN, cut, aggOf, OutOK_stop, List.size_toArray, List.length_cons, List.length_nil, List.range, List.range.loop, List.getElem?_toArray, List.getElem?_cons_succ, List.getElem?_cons_zero, ↓reduceIte, Nat.reduceAdd, Nat.reduceLT, Nat.reduceEqDiff, Nat.zero_add, Nat.add_one_ne_zero, Try.sz2, Try.ag2, Try.fd24f1]
    refine hκ.run 300 ?_
    simp (disch := omega) only [exec_succ, runR_stop, stepS, OutOK_stop, gl0]
    refine hκ.ret _ _ _ _ _ _ trivial rfl ?_
    rw [untilT, if_neg (by omega)]
    exact .ret trivial
/-- Where a vCPU is; -1: nowhere. -/
def onP (l : List Pt) (v : Int) : Int := ((l.find? fun p => decide (p.1 = v)).map (·.2)).getD (-1)
theorem on_ok (l : List Pt) (v : Int) (hl : ∀ p ∈ l, inPt p) (hv : i64 v) (hn : l.length < 2 ^ 46) : Con Try.prog gl0 (fnv 43) [Ps l, I v] 0 [] (Ret (I (onP l v))) := by
  refine Con.of Try.ok43 (nt := 24) (res := [.tmp 4]) Try.mixed Try.func43 rfl rfl rfl rfl fun κ xc hκ => hκ.run 300 ?_
  simp (disch := omega) only [exec_succ, runR_next, runR_stop, stepS, runOp, toSR, sop, rOf, ev, envOf, OutOK_stop, List.size_toArray, List.length_cons, List.length_nil, List.range, List.range.loop, List.getElem?_toArray, List.getElem?_cons_zero, ↓reduceIte, Nat.reduceLT, Nat.zero_add, Int.reduceNeg, gl0]
  refine Sat.less (Sat.loop (γ := Nat) (fun k => ([(5, I k), (0, Ps l), (1, I v)], [], 0)) (fun k => l.length - k) (fun k => k ≤ l.length ∧ onP (l.drop k) v = onP l v) ?round 0 ⟨Nat.zero_le _, rfl⟩) (by repeat' (first | exact EnvSub.nil _ | exact HeapSub.nil _ | refine EnvSub.cons rfl ?_ | refine HeapSub.cons rfl ?_ | (refine EnvSub.cons (by simp [Env.get]; done) ?_) | (refine HeapSub.cons (by simp [Heap.get]; done) ?_))) (by repeat' (first | exact EnvSub.nil _ | exact HeapSub.nil _ | refine EnvSub.cons rfl ?_ | refine HeapSub.cons rfl ?_ | (refine EnvSub.cons (by simp [Env.get]; done) ?_) | (refine HeapSub.cons (by simp [Heap.get]; done) ?_)))
  case round =>
    rintro k ⟨hk, hj⟩ ih
    dsimp only at hk hj ih ⊢
    refine hκ.run 300 ?_
    simp (disch := omega) only [sBuiltin, exec_succ, runR_next, stepS, runOp, condS, toSR, sop, rOf, sInt, sBin, sLen, ev, Env.get, List.size_toArray, List.length_cons, List.length_nil, List.length_map, List.range, List.range.loop, List.getElem?_toArray, List.getElem?_cons_succ, List.getElem?_cons_zero, ↓reduceIte, Nat.reduceAdd, Nat.reduceLT, Nat.reduceEqDiff, Nat.zero_add, Nat.add_one_ne_zero, Int.reduceNeg, gl0, Try.underlying25]
    refine OutOK_fork (fun h => ?_) (fun h => ?_) <;> try simp only [Bool.not_true, Bool.not_false, decide_eq_true_eq, decide_eq_false_iff_not, Bool.not_eq_true', Bool.not_eq_false', Bool.and_eq_true, Bool.or_eq_false_iff, Bool.or_eq_true, Bool.and_eq_false_iff] at h
    · obtain ⟨p1, p2⟩ := hl _ (getD_mem (show k < l.length by omega))
      rw [drop_getD (by omega), onP, List.find?_cons] at hj
      by_cases e1 : (l.getD k default).1 = v
      · rw [decide_eq_true e1] at hj
        simp (disch := omega) only [exec_succ, runR_next, runR_need, runR_fork_true, runR_stop, stepS, runOp, condS, toSR, sop, rOf, sLoad, sInt, sBin, sFieldAddr, sIndexAddr, elemT, obind, ev, Env.get, takeN, cut, aggOf, OutOK_need, OutOK_stop, List.size_toArray, List.length_cons, List.length_nil, List.length_map, List.range, List.range.loop, List.getElem?_toArray, List.getElem?_cons_succ, List.getElem?_cons_zero, ↓reduceIte, Nat.reduceAdd, Nat.reduceLT, Nat.reduceEqDiff, Nat.zero_add, Nat.add_zero, Nat.add_one_ne_zero, Int.reduceNeg, Int.toNat_natCast, decide_true, reduceCtorEq, getD_map, Try.sz3, Try.ag3, Try.underlying25, Try.sz51, Try.fd51f0, Try.fd51f1, e1, eP]
        (repeat (refine ⟨by first | omega | (refine ⟨?_, ?_⟩ <;> omega) | trivial | (simp; done) | decide +kernel, fun _ => ?_⟩))
        refine hκ.ret _ _ _ _ _ _ trivial rfl ?_
        rw [← hj]
        exact .ret trivial
      · rw [decide_eq_false e1] at hj
        have hz := ih (k + 1) ⟨by omega, hj⟩ (by omega)
        simp (disch := omega) only [exec_succ, runR_next, runR_need, runR_fork_false, runR_stop, stepS, runOp, condS, toSR, sop, rOf, sLoad, sInt, sBin, sFieldAddr, sIndexAddr, elemT, obind, ev, Env.get, takeN, cut, aggOf, OutOK_need, OutOK_stop, List.size_toArray, List.length_cons, List.length_nil, List.length_map, List.range, List.range.loop, List.getElem?_toArray, List.getElem?_cons_succ, List.getElem?_cons_zero, ↓reduceIte, Nat.reduceAdd, Nat.reduceLT, Nat.reduceEqDiff, Nat.zero_add, Nat.add_zero, Nat.add_one_ne_zero, Int.reduceNeg, Int.toNat_natCast, decide_false, reduceCtorEq, getD_map, wrap_i64, Try.sz3, Try.ag3, Try.underlying25, Try.sz51, Try.fd51f0, e1, eP]
        (repeat (refine ⟨by first | omega | (refine ⟨?_, ?_⟩ <;> omega) | trivial | (simp; done) | decide +kernel, fun _ => ?_⟩))
        exact hz.less (by repeat' (first | exact EnvSub.nil _ | exact HeapSub.nil _ | refine EnvSub.cons rfl ?_ | refine HeapSub.cons rfl ?_ | (refine EnvSub.cons (by simp [Env.get]; done) ?_) | (refine HeapSub.cons (by simp [Heap.get]; done) ?_))) (by repeat' (first | exact EnvSub.nil _ | exact HeapSub.nil _ | refine EnvSub.cons rfl ?_ | refine HeapSub.cons rfl ?_ | (refine EnvSub.cons (by simp [Env.get]; done) ?_) | (refine HeapSub.cons (by simp [Heap.get]; done) ?_)))
    · simp (disch := omega) only [exec_succ, runR_next, runR_stop, stepS, runOp, goS, toSR, sop, rOf, ev, exitTo, OutOK_stop, List.size_toArray, List.length_cons, List.length_nil, List.range, List.range.loop, List.getElem?_toArray, List.getElem?_cons_zero, ↓reduceIte, Nat.reduceLT, Nat.zero_add, Int.reduceNeg, beq_self_eq_true]
      obtain rfl : k = l.length := by omega
      rw [List.drop_length] at hj
      refine hκ.run 300 ?_
      simp (disch := omega) only [exec_succ, runR_stop, stepS, OutOK_stop, Int.reduceNeg, gl0]
      refine hκ.ret _ _ _ _ _ _ trivial rfl ?_
      rw [← hj]
      exact .ret trivial
end Go.Proofs.Ytcpanpkhdcifoaa
