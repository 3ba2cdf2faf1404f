/- Traces: how long a vCPU ran, a pCPU was busy. No condition. -/
import Derived.Test.YtcpanpkhdcifoaaTm
namespace Go.Proofs.Ytcpanpkhdcifoaa
open Go Go.Sy
set_option maxRecDepth 100000
set_option linter.unusedSimpArgs false
set_option linter.unusedVariables false

/-- The error of a time between times. -/
def longE (fs : List Fr) (en f t : Int) : Int := if rightT fs en = true then (if timeB f = true ∧ timeB t = true ∧ f ≤ t then 0 else 2) else 330
theorem ran_ok (fs : List Fr) (en v f t : Int) (hf : ∀ f ∈ fs, inFr f) (he : i64 en) (hv : i64 v) (hff : i64 f) (htt : i64 t) (hn : fs.length < 2 ^ 46) : Con Try.prog gl0 (fnv 19) [Tr fs en, I v, I f, I t] 0 [] (Ret (.tup [I (if longE fs en f t = 0 then longT fs en f t (fun p => decide (p.1 = v)) else 0), I (longE fs en f t)])) := by
  have c1 := check_ok fs en hf he hn
  have c2 := ptime_ok f
  have c3 := ptime_ok t
  refine Con.of Try.ok19 (nt := 17) (res := [.tmp 8, .tmp 9]) Try.mixed Try.func19 rfl rfl rfl rfl fun κ xc hκ => hκ.run 300 ?_
  simp (disch := omega) only [exec_succ, runR_next, runR_call, stepS, runOp, toSR, sop, rOf, rNew, sBox, isArr, sLoadIn, sLoad, sMakeFunc, ev, evs, svs, Env.get, Heap.get, takeN, cut, aggOf, cellsS, envOf, Value.cells, OutOK_call, Bool.false_eq_true, List.size_toArray, List.length_cons, List.length_nil, List.range, List.range.loop, List.getElem?_toArray, List.getElem?_cons_succ, List.getElem?_cons_zero, List.map_cons, List.map_nil, List.toList_toArray, ↓reduceIte, Nat.reduceAdd, Nat.reduceLT, Nat.reduceEqDiff, Nat.zero_add, Nat.add_one_ne_zero, reduceCtorEq, gl0, Try.sz24, Try.ag24]
  refine Does.inl hκ.hP hκ.hgl Try.ok37 (nt := 51) (res := [.tmp 8, .tmp 9]) Try.mixed Try.func37 rfl rfl rfl rfl fun κ_h1 x_h1 h1 => h1.run 300 ?_
  simp (disch := omega) only [exec_succ, runR_next, runR_call, stepS, runOp, toSR, sop, rOf, rNew, sBox, isArr, sLoadIn, sLoad, ev, evs, svs, Env.get, Heap.get, takeN, cut, aggOf, cellsS, envOf, Value.cells, OutOK_call, Bool.false_eq_true, List.size_toArray, List.length_cons, List.length_nil, List.range, List.range.loop, List.getElem?_toArray, List.getElem?_cons_succ, List.getElem?_cons_zero, List.map_cons, List.map_nil, List.toList_toArray, ↓reduceIte, Nat.reduceAdd, Nat.reduceLT, Nat.reduceEqDiff, Nat.zero_add, reduceCtorEq, gl0, Try.sz24, Try.ag24]
  by_cases q1 : rightT fs en = true
  case neg =>
    rw [if_neg q1] at c1
    have e1 : longE fs en f t = 330 := by rw [longE, if_neg q1]
    rw [e1, if_neg (by decide)] at hκ
    refine Does.ret h1.hP h1.hgl (c1) ⟨trivial, by simp [SV.bnd, SV.bndL], by first | (simp [SV.bnd, SV.bndL]; done) | assumption⟩ ?_
    refine h1.run 300 ?_
    simp (disch := omega) only [exec_succ, runR_next, runR_fork_true, runR_stop, stepS, runOp, condS, toSR, sop, rOf, sInt, sBin, ev, Env.get, setO, OutOK_stop, List.size_toArray, List.length_cons, List.length_nil, List.range, List.range.loop, List.getElem?_toArray, List.getElem?_cons_succ, List.getElem?_cons_zero, ↓reduceIte, Nat.reduceAdd, Nat.reduceLT, Nat.zero_add, Int.reduceEq, Bool.not_false, decide_false, gl0]
    refine h1.ret _ _ _ _ _ _ trivial rfl ?_
    refine hκ.run 300 ?_
    simp (disch := omega) only [exec_succ, runR_next, runR_stop, stepS, runOp, toSR, sop, rOf, sExtract, ev, Env.get, setO, OutOK_stop, dropL, resV, List.getElem?_toArray, List.getElem?_cons_succ, List.getElem?_cons_zero, ↓reduceIte, Nat.reduceLT, Nat.reduceEqDiff, gl0]
    refine hκ.ret _ _ _ _ _ _ trivial rfl ?_
    exact .ret (by simp [SV.bnd, SV.bndL])
  rw [if_pos q1] at c1
  refine Does.ret h1.hP h1.hgl (c1) ⟨trivial, by simp [SV.bnd, SV.bndL], by first | (simp [SV.bnd, SV.bndL]; done) | assumption⟩ ?_
  refine h1.run 300 ?_
  simp (disch := omega) only [exec_succ, runR_next, runR_fork_false, runR_call, stepS, runOp, condS, toSR, sop, rOf, sLoadIn, sLoad, sInt, sBin, ev, evs, Env.get, Heap.get, takeN, cut, aggOf, setO, OutOK_call, List.size_toArray, List.length_cons, List.length_nil, List.range, List.range.loop, List.getElem?_toArray, List.getElem?_cons_succ, List.getElem?_cons_zero, ↓reduceIte, Nat.reduceAdd, Nat.reduceLT, Nat.reduceEqDiff, Nat.zero_add, Bool.not_true, decide_true, gl0, Try.sz2, Try.ag2]
  refine Does.ret h1.hP h1.hgl (c2) ⟨trivial, by simp [SV.bnd, SV.bndL], by first | (simp [SV.bnd, SV.bndL]; done) | assumption⟩ ?_
  cases q2 : timeB f
  · have e1 : longE fs en f t = 2 := by rw [longE, if_pos q1, if_neg (by rw [q2]; simp)]
    rw [e1, if_neg (by decide)] at hκ
    refine h1.run 300 ?_
    simp (disch := omega) only [exec_succ, runR_next, runR_fork_true, runR_guard_tf, runR_stop, stepS, runOp, guardS, condS, toSR, sop, rOf, sPick, sLoadIn, sLoad, sBin, sUn, ev, evs, Env.get, Heap.get, takeN, cut, aggOf, setO, OutOK_stop, undefS, undef, List.size_toArray, List.length_cons, List.length_nil, List.range, List.range.loop, List.getElem?_toArray, List.getElem?_cons_succ, List.getElem?_cons_zero, Option.bind_some, ↓reduceIte, Nat.reduceAdd, Nat.reduceLT, Nat.reduceEqDiff, Nat.zero_add, Bool.not_false, and_self, gl0, Try.sz2, Try.ag2]
    refine h1.ret _ _ _ _ _ _ trivial rfl ?_
    refine hκ.run 300 ?_
    simp (disch := omega) only [exec_succ, runR_next, runR_stop, stepS, runOp, toSR, sop, rOf, sExtract, ev, Env.get, setO, OutOK_stop, dropL, resV, List.getElem?_toArray, List.getElem?_cons_succ, List.getElem?_cons_zero, ↓reduceIte, Nat.reduceLT, Nat.reduceEqDiff, gl0]
    refine hκ.ret _ _ _ _ _ _ trivial rfl ?_
    exact .ret (by simp [SV.bnd, SV.bndL])
  refine h1.run 300 ?_
  simp (disch := omega) only [exec_succ, runR_next, runR_guard_ff, runR_call, stepS, runOp, guardS, toSR, sop, rOf, sLoadIn, sLoad, sUn, ev, evs, Env.get, Heap.get, takeN, cut, aggOf, setO, OutOK_call, undefS, undef, List.getElem?_toArray, List.getElem?_cons_succ, List.getElem?_cons_zero, Option.bind_some, ↓reduceIte, Nat.reduceLT, Nat.reduceEqDiff, Bool.not_true, Bool.not_false, and_self, gl0, Try.sz2, Try.ag2]
  refine Does.ret h1.hP h1.hgl (c3) ⟨trivial, by simp [SV.bnd, SV.bndL], by first | (simp [SV.bnd, SV.bndL]; done) | assumption⟩ ?_
  cases q3 : timeB t
  · have e1 : longE fs en f t = 2 := by rw [longE, if_pos q1, if_neg (by rw [q3]; simp)]
    rw [e1, if_neg (by decide)] at hκ
    refine h1.run 300 ?_
    simp (disch := omega) only [exec_succ, runR_next, runR_fork_true, runR_guard_ff, runR_guard_tf, runR_stop, stepS, runOp, guardS, condS, toSR, sop, rOf, sPick, sLoadIn, sLoad, sBin, sUn, ev, Env.get, Heap.get, takeN, cut, aggOf, setO, OutOK_stop, undefS, undef, List.size_toArray, List.length_cons, List.length_nil, List.range, List.range.loop, List.getElem?_toArray, List.getElem?_cons_succ, List.getElem?_cons_zero, Option.bind_some, ↓reduceIte, Nat.reduceAdd, Nat.reduceLT, Nat.reduceEqDiff, Nat.zero_add, Bool.not_false, and_self, gl0, Try.sz2, Try.ag2]
    refine h1.ret _ _ _ _ _ _ trivial rfl ?_
    refine hκ.run 300 ?_
    simp (disch := omega) only [exec_succ, runR_next, runR_stop, stepS, runOp, toSR, sop, rOf, sExtract, ev, Env.get, setO, OutOK_stop, dropL, resV, List.getElem?_toArray, List.getElem?_cons_succ, List.getElem?_cons_zero, ↓reduceIte, Nat.reduceLT, Nat.reduceEqDiff, gl0]
    refine hκ.ret _ _ _ _ _ _ trivial rfl ?_
    exact .ret (by simp [SV.bnd, SV.bndL])
  by_cases q4 : t < f
  · have e1 : longE fs en f t = 2 := by rw [longE, if_pos q1, if_neg (fun h => by omega)]
    rw [e1, if_neg (by decide)] at hκ
    have e3 : (t < f) = True := by first | (simp only [eq_iff_iff, iff_true]; first | assumption | omega) | (simp; omega)
    refine h1.run 300 ?_
    simp (disch := omega) only [exec_succ, runR_next, runR_fork_true, runR_guard_ff, runR_stop, stepS, runOp, guardS, condS, toSR, sop, rOf, sPick, sLoadIn, sLoad, sInt, sBin, sUn, ev, Env.get, Heap.get, takeN, cut, aggOf, setO, OutOK_stop, undefS, undef, List.size_toArray, List.length_cons, List.length_nil, List.range, List.range.loop, List.getElem?_toArray, List.getElem?_cons_succ, List.getElem?_cons_zero, Option.bind_some, ↓reduceIte, Nat.reduceAdd, Nat.reduceLT, Nat.reduceEqDiff, Nat.zero_add, Bool.not_true, Bool.not_false, decide_true, and_self, gl0, Try.sz2, Try.ag2, e3]
    refine h1.ret _ _ _ _ _ _ trivial rfl ?_
    refine hκ.run 300 ?_
    simp (disch := omega) only [exec_succ, runR_next, runR_stop, stepS, runOp, toSR, sop, rOf, sExtract, ev, Env.get, setO, OutOK_stop, dropL, resV, List.getElem?_toArray, List.getElem?_cons_succ, List.getElem?_cons_zero, ↓reduceIte, Nat.reduceLT, Nat.reduceEqDiff, gl0]
    refine hκ.ret _ _ _ _ _ _ trivial rfl ?_
    exact .ret (by simp [SV.bnd, SV.bndL])
  have e1 : longE fs en f t = 0 := by rw [longE, if_pos q1, if_pos ⟨q2, q3, by omega⟩]
  rw [e1, if_pos rfl] at hκ
  have e3 : (t < f) = False := by first | (simp only [eq_iff_iff, iff_false]; first | assumption | omega) | (simp; omega)
  have hrt := (RT.iff fs en).1 q1
  have hlen := hrt.len
  have hen := hrt.en1
  have q2b := (timeB_iff f).1 q2
  have q3b := (timeB_iff t).1 q3
  refine h1.run 300 ?_
  simp (disch := omega) only [exec_succ, runR_next, runR_need, runR_fork_false, runR_guard_ff, runR_call, stepS, runOp, guardS, condS, toSR, sop, rOf, rNew, sPick, sAlloc, sAlloc0, sLoadIn, sLoad, sStoreIn, sStore, sInt, sBin, sUn, ev, evs, svs, Env.get, Heap.get, Heap.set, takeN, cut, over, paste, aggOf, cellsS, one, ones, setO, Value.cells, Value.oneCell', OutOK_need, OutOK_call, undefS, undef, List.size_toArray, List.length_cons, List.length_nil, List.range, List.range.loop, List.getElem?_toArray, List.getElem?_cons_succ, List.getElem?_cons_zero, List.map_cons, List.map_nil, Option.bind_some, List.toList_toArray, ↓reduceIte, Nat.reduceAdd, Nat.reduceLT, Nat.reduceEqDiff, Nat.zero_add, Bool.not_true, Bool.not_false, decide_false, true_and, and_self, forall_const, gl0, Try.sz2, Try.ag2, Try.ze2, Try.ar2, Try.sz24, Try.ag24, e3]
  refine Does.inl h1.hP h1.hgl Try.ok39 (nt := 4) (res := [.tmp 2]) Try.mixed Try.func39 rfl rfl rfl rfl fun κ_h2 x_h2 h2 => h2.run 300 ?_
  simp (disch := omega) only [exec_succ, runR_next, runR_stop, stepS, runOp, toSR, sop, rOf, rNew, sBox, isArr, sMakeFunc, ev, evs, Env.get, cellsS, envOf, OutOK_stop, Bool.false_eq_true, List.size_toArray, List.length_cons, List.length_nil, List.range, List.range.loop, List.getElem?_toArray, List.getElem?_cons_succ, List.getElem?_cons_zero, ↓reduceIte, Nat.reduceAdd, Nat.reduceLT, Nat.reduceEqDiff, Nat.zero_add, gl0]
  refine h2.ret _ _ _ _ _ _ trivial rfl ?_
  refine h1.run 300 ?_
  simp (disch := omega) only [exec_succ, runR_next, runR_stop, stepS, setO, OutOK_stop, dropL, resV, gl0]
  refine h1.rangeL rfl fun L l1 l2 l3 l4 l5 l6 => ?_
  refine Does.inlc rfl h1.hgl Try.ok48 (nt := 35) (res := []) Try.mixed Try.func48 rfl rfl rfl rfl fun κ_h4 x_h4 h4 => h4.run 300 ?_
  simp (disch := omega) only [sBuiltin, exec_succ, runR_next, runR_stop, stepS, runOp, toSR, sop, rOf, sLoadIn, sLoad, sFieldAddr, sLen, ev, Env.get, Heap.get, takeN, cut, aggOf, envOf, OutOK_stop, List.size_toArray, List.length_cons, List.length_nil, List.length_map, List.range, List.range.loop, List.getElem?_toArray, List.getElem?_cons_succ, List.getElem?_cons_zero, List.cons_append, List.nil_append, ↓reduceIte, Nat.reduceAdd, Nat.reduceLT, Nat.reduceEqDiff, Nat.zero_add, Nat.add_zero, Nat.add_one_ne_zero, reduceCtorEq, gl0, Try.underlying22, Try.sz22, Try.ag22, Try.fd24f0]
  refine Sat.less (Sat.loop (γ := Nat) (fun k => ([(9, I k), (8, I fs.length), (7, Fs fs), (0, .yl 9), (1, .ptr 7 0 0 0)], [(9, L.blk .ready none), (8, .obj (.deferred (some []))), (7, .own [Fs fs, I en] 24), (6, .own [I (longK fs en f t (fun p => decide (p.1 = v)) k)] 2), (5, .own [.fn (.func 38) [] [.ptr 1 0 0 0]] 71), (4, .own [I t] 2), (3, .own [I f] 2), (1, .own [I v] 3)], 10)) (fun k => fs.length - k) (fun k => k ≤ fs.length) ?round 0 (Nat.zero_le _)) (by repeat' (first | exact EnvSub.nil _ | exact HeapSub.nil _ | refine EnvSub.cons rfl ?_ | refine HeapSub.cons rfl ?_ | (refine EnvSub.cons (by simp [Env.get]; done) ?_) | (refine HeapSub.cons (by simp [Heap.get]; done) ?_))) (by repeat' (first | exact EnvSub.nil _ | exact HeapSub.nil _ | refine EnvSub.cons rfl ?_ | refine HeapSub.cons rfl ?_ | (refine EnvSub.cons (by simp [Env.get]; done) ?_) | (refine HeapSub.cons (by simp [Heap.get]; done) ?_)))
  case round =>
    intro k hk ih
    dsimp only at ih ⊢
    refine h4.runA 4 300 ?_
    simp (disch := omega) only [runR_next, stepS, runOp, condS, toSR, sop, sInt, sBin, ev, Env.get, halt, isAt, atC, execA_succ, List.size_toArray, List.length_cons, List.length_nil, List.range, List.range.loop, List.getElem?_toArray, List.getElem?_cons_zero, ↓reduceIte, Nat.reduceLT, Nat.reduceEqDiff, Nat.zero_add, Nat.reduceBEq, gl0]
    refine OutOK_fork (fun h => ?_) (fun h => ?_) <;> try simp only [Bool.not_true, Bool.not_false, decide_eq_true_eq, decide_eq_false_iff_not, Bool.not_eq_true', Bool.not_eq_false', Bool.and_eq_true, Bool.or_eq_false_iff, Bool.or_eq_true, Bool.and_eq_false_iff] at h
    · have hm := getD_mem (show k < fs.length by omega)
      obtain ⟨v1, v2, v3⟩ := hf _ hm
      have hz := ih (k + 1) (by omega) (by omega)
      have hu : untilT fs en k = if k + 1 < fs.length then (fs.getD (k + 1) default).1 else en := rfl
      have hub := hrt.until (k := k) (by omega)
      have hab := hrt.at0 k (by omega)
      have hlb := longK_bd hrt f t (fun p => decide (p.1 = v)) k hk
      have c4 := rhas_ok (pT fs k) v v2 hv v3
      rw [longK] at hz
      generalize longK fs en f t (fun p => decide (p.1 = v)) k = n at hz hlb ⊢
      simp (disch := omega) only [runR_next, runR_need, stepS, runOp, toSR, sop, rOf, rNew, sAlloc, sAlloc0, sLoadIn, sLoad, sStoreIn, sStore, sFieldAddr, sIndexAddr, elemT, obind, ev, svs, Env.get, Heap.get, Heap.set, takeN, cut, over, paste, aggOf, cellsS, one, ones, Value.oneCell', OutOK_need, OutOK_stop, undefS, undef, halt, isAt, atC, execA_succ, List.size_toArray, List.length_cons, List.length_nil, List.length_map, List.range, List.range.loop, List.getElem?_toArray, List.getElem?_cons_succ, List.getElem?_cons_zero, List.map_cons, List.map_nil, ↓reduceIte, Nat.reduceAdd, Nat.reduceLT, Nat.reduceEqDiff, Nat.zero_add, Nat.add_one_ne_zero, Nat.reduceBEq, Int.toNat_natCast, beq_self_eq_true, true_and, and_self, forall_const, reduceCtorEq, getD_map, Try.sz2, Try.ag2, Try.underlying22, Try.fd24f1, Try.sz58, Try.ag58, Try.ze58, Try.ar58, eF, eF]
      (repeat (refine ⟨by first | omega | (refine ⟨?_, ?_⟩ <;> omega) | trivial | (simp; done) | decide +kernel, fun _ => ?_⟩))
      apply Sat.join (α := Unit) (nx := 11) (dfs := []) (fun _ => True) (fun _ => ([(5, I (untilT fs en k)), (4, .ptr 10 0 0 0), (9, I k), (8, I fs.length), (7, Fs fs), (0, .yl 9), (1, .ptr 7 0 0 0)], [(10, .own [I (aT fs k), Ps (pT fs k)] 58), (9, L.blk .ready none), (8, .obj (.deferred (some []))), (7, .own [Fs fs, I en] 24), (6, .own [I n] 2), (5, .own [.fn (.func 38) [] [.ptr 1 0 0 0]] 71), (4, .own [I t] 2), (3, .own [I f] 2), (1, .own [I v] 3)]))
      · intro hj
        have hj := hj () trivial
        refine h4.runA 6 300 ?_
        simp (disch := omega) only [sBuiltin, runR_next, stepS, runOp, condS, toSR, sop, rOf, sLoadIn, sLoad, sInt, sBin, sFieldAddr, sLen, ev, Env.get, Heap.get, takeN, cut, aggOf, halt, isAt, atC, execA_succ, List.size_toArray, List.length_cons, List.length_nil, List.length_map, List.range, List.range.loop, List.getElem?_toArray, List.getElem?_cons_succ, List.getElem?_cons_zero, ↓reduceIte, Nat.reduceAdd, Nat.reduceLT, Nat.reduceEqDiff, Nat.zero_add, Nat.add_zero, Nat.add_one_ne_zero, Nat.reduceBEq, reduceCtorEq, wrap_i64, gl0, Try.underlying22, Try.sz22, Try.ag22, Try.fd24f0]
        refine OutOK_fork (fun h => ?_) (fun h => ?_) <;> try simp only [Bool.not_true, Bool.not_false, decide_eq_true_eq, decide_eq_false_iff_not, Bool.not_eq_true', Bool.not_eq_false', Bool.and_eq_true, Bool.or_eq_false_iff, Bool.or_eq_true, Bool.and_eq_false_iff] at h
        · rw [show untilT fs en k = (fs.getD (k + 1) default).1 by rw [hu, if_pos (by omega)]] at hj
          have hkk : ((k : Int) + 1).toNat = k + 1 := by omega
          simp (disch := omega) only [runR_next, runR_need, stepS, runOp, toSR, sop, rOf, sLoadIn, sLoad, sInt, sBin, sFieldAddr, sIndexAddr, elemT, obind, ev, Env.get, Heap.get, takeN, cut, aggOf, OutOK_need, OutOK_stop, halt, isAt, atC, execA_succ, List.size_toArray, List.length_cons, List.length_nil, List.length_map, List.range, List.range.loop, List.getElem?_toArray, List.getElem?_cons_succ, List.getElem?_cons_zero, ↓reduceIte, Nat.reduceAdd, Nat.reduceLT, Nat.reduceEqDiff, Nat.zero_add, Nat.add_zero, Nat.add_one_ne_zero, Nat.reduceBEq, beq_self_eq_true, reduceCtorEq, getD_map, wrap_i64, Try.sz2, Try.ag2, Try.underlying22, Try.sz22, Try.ag22, Try.fd24f0, Try.sz58, Try.fd58f0, eF, hkk, eF]
          (repeat (refine ⟨by first | omega | (refine ⟨?_, ?_⟩ <;> omega) | trivial | (simp; done) | decide +kernel, fun _ => ?_⟩))
          exact hj.less (by repeat' (first | exact EnvSub.nil _ | exact HeapSub.nil _ | refine EnvSub.cons rfl ?_ | refine HeapSub.cons rfl ?_ | (refine EnvSub.cons (by simp [Env.get]; done) ?_) | (refine HeapSub.cons (by simp [Heap.get]; done) ?_))) (by repeat' (first | exact EnvSub.nil _ | exact HeapSub.nil _ | refine EnvSub.cons rfl ?_ | refine HeapSub.cons rfl ?_ | (refine EnvSub.cons (by simp [Env.get]; done) ?_) | (refine HeapSub.cons (by simp [Heap.get]; done) ?_)))
        · rw [show untilT fs en k = en by rw [hu, if_neg (by omega)]] at hj
          simp (disch := omega) only [runR_next, stepS, OutOK_stop, halt, isAt, atC, execA_succ, beq_self_eq_true]
          exact hj.less (by repeat' (first | exact EnvSub.nil _ | exact HeapSub.nil _ | refine EnvSub.cons rfl ?_ | refine HeapSub.cons rfl ?_ | (refine EnvSub.cons (by simp [Env.get]; done) ?_) | (refine HeapSub.cons (by simp [Heap.get]; done) ?_))) (by repeat' (first | exact EnvSub.nil _ | exact HeapSub.nil _ | refine EnvSub.cons rfl ?_ | refine HeapSub.cons rfl ?_ | (refine EnvSub.cons (by simp [Env.get]; done) ?_) | (refine HeapSub.cons (by simp [Heap.get]; done) ?_)))
      intro _ _
      generalize untilT fs en k = u at hz hub ⊢
      generalize aT fs k = a at v1 hz hub hab ⊢
      generalize pT fs k = l at v2 v3 hz c4 ⊢
      refine h4.run 300 ?_
      simp (disch := omega) only [exec_succ, runR_next, runR_call, stepS, runOp, toSR, sop, rOf, sLoadIn, sLoad, ev, evs, Env.get, Heap.get, takeN, cut, aggOf, OutOK_call, List.size_toArray, List.length_cons, List.length_nil, List.range, List.range.loop, List.getElem?_toArray, List.getElem?_cons_succ, List.getElem?_cons_zero, ↓reduceIte, Nat.reduceAdd, Nat.reduceLT, Nat.reduceEqDiff, Nat.zero_add, Nat.add_one_ne_zero, gl0, Try.sz58, Try.ag58]
      refine Does.roundL h4.hP h4.hgl Try.mixed (L := L) rfl l1 l2 l3 l4 l5 rfl rfl fun κ_h5 x_h5 h5 => ?_
      simp only [bindP]
      refine h5.run 300 ?_
      simp (disch := omega) only [exec_succ, runR_next, runR_need, runR_stop, stepS, runOp, toSR, sop, rOf, rNew, sAlloc, sAlloc0, sStoreIn, sStore, ev, svs, Env.get, Heap.get, Heap.set, over, paste, cellsS, one, ones, Value.oneCell', OutOK_need, OutOK_stop, undefS, undef, List.size_toArray, List.length_cons, List.length_nil, List.range, List.range.loop, List.getElem?_toArray, List.getElem?_cons_succ, List.getElem?_cons_zero, List.map_cons, List.map_nil, ↓reduceIte, Nat.reduceAdd, Nat.reduceLT, Nat.reduceEqDiff, Nat.zero_add, true_and, and_self, forall_const, gl0, Try.sz58, Try.ze58, Try.ar58]
      refine h5.beg rfl ?_
      simp only [Heap.set, Nat.reduceEqDiff, ↓reduceIte]
      refine h5.run 300 ?_
      simp (disch := omega) only [exec_succ, runR_next, runR_call, stepS, runOp, toSR, sop, rOf, sLoadIn, sLoad, sFieldAddr, ev, evs, Env.get, Heap.get, takeN, cut, aggOf, OutOK_call, List.size_toArray, List.length_cons, List.length_nil, List.range, List.range.loop, List.getElem?_toArray, List.getElem?_cons_succ, List.getElem?_cons_zero, ↓reduceIte, Nat.reduceAdd, Nat.reduceLT, Nat.reduceEqDiff, Nat.zero_add, Nat.add_one_ne_zero, gl0, Try.sz25, Try.ag25, Try.fd58f1, Try.sz71, Try.ag71]
      refine Does.keep h5.hP h5.hgl 1 [Ps l, .fn (.func 38) [] [.ptr 0 0 0 0]] c4 rfl ⟨trivial, by simp [SV.bnd, SV.bndL], by first | (simp [SV.bnd, SV.bndL]; done) | assumption⟩ ⟨Blk.still_own ⟨trivial, trivial⟩, ⟨trivial, trivial⟩, Blk.still_own ⟨trivial, trivial⟩⟩ rfl (by first | omega | (dsimp only; omega)) ?_
      cases hq : (l.any fun p => decide (p.1 = v))
      · rw [hq, if_neg (by decide), Int.add_zero] at hz
        refine h5.run 300 ?_
        simp (disch := omega) only [exec_succ, runR_next, runR_fork_false, runR_stop, stepS, condS, ev, Env.get, setO, OutOK_stop, without, List.mem_singleton, ↓reduceIte, Nat.reduceEqDiff, gl0]
        refine h5.fin rfl ?_
        simp only [Heap.set, Nat.reduceEqDiff, ↓reduceIte]
        refine h4.run 300 ?_
        simp (disch := omega) only [exec_succ, runR_next, runR_fork_false, runR_stop, stepS, runOp, condS, toSR, sop, rOf, sInt, sBin, sUn, ev, Env.get, setO, OutOK_stop, List.size_toArray, List.length_cons, List.length_nil, List.range, List.range.loop, List.getElem?_toArray, List.getElem?_cons_succ, List.getElem?_cons_zero, ↓reduceIte, Nat.reduceAdd, Nat.reduceLT, Nat.reduceEqDiff, Nat.zero_add, Bool.not_true, wrap_i64, gl0]
        refine Sat.via (fun i => i) (hz) (by intro i j; (repeat (first | omega | split))) (by repeat' (first | exact EnvVia.nil | refine EnvVia.cons (by first | trivial | decide | (simp [SV.bnd, SV.bndL]; done)) rfl ?_)) (by repeat' (first | exact HeapVia.nil | refine HeapVia.cons (by decide) (by first | trivial | (simp [Blk.bnd, SV.bnd, SV.bndL]; done) | exact bndL_mapV _ _ _ | exact LR.bnd (by rw [l2]; simp [bndE, SV.bnd, SV.bndL]) (by rw [l6]; decide)) (by first | rfl | (simp only [Blk.ren, renL_mapV]; rfl) | (rw [LR.ren (by rw [l2] <;> rfl) (by rw [l6] <;> rfl)]; rfl)) ?_)) ⟨by have := h4.hm; (try dsimp only at this); (first | done | omega), fun i hi => by have := h4.hm; (try dsimp only at this); (first | omega | (dsimp only; omega) | (rw [if_neg (by omega)]))⟩ ⟨by simp, rfl⟩
      · rw [hq, if_pos rfl] at hz
        have ec : n + max (min u t - max a f) 0 = n + cutI a u f t := by unfold cutI; split <;> omega
        refine h5.run 300 ?_
        simp (disch := omega) only [sBuiltin, sMinMax, exec_succ, runR_next, runR_need, runR_fork_true, runR_stop, stepS, runOp, condS, toSR, sop, rOf, sLoadIn, sLoad, sStoreIn, sStore, sInt, sBin, sFieldAddr, ev, svs, Env.get, Heap.get, Heap.set, takeN, cut, over, paste, aggOf, cellsS, one, ones, setO, Value.cells, Value.oneCell', OutOK_need, OutOK_stop, undefS, undef, without, List.mem_singleton, Bool.false_eq_true, List.size_toArray, List.length_cons, List.length_nil, List.range, List.range.loop, List.getElem?_toArray, List.getElem?_cons_succ, List.getElem?_cons_zero, List.map_cons, List.map_nil, List.toList_toArray, ↓reduceIte, Nat.reduceAdd, Nat.reduceLT, Nat.reduceEqDiff, Nat.zero_add, Nat.add_zero, Nat.add_one_ne_zero, true_and, and_self, forall_const, wrap_i64, gl0, Try.sz2, Try.ag2, Try.fd58f0]
        rw [ec]
        refine h5.fin rfl ?_
        simp only [Heap.set, Nat.reduceEqDiff, ↓reduceIte]
        refine h4.run 300 ?_
        simp (disch := omega) only [exec_succ, runR_next, runR_fork_false, runR_stop, stepS, runOp, condS, toSR, sop, rOf, sInt, sBin, sUn, ev, Env.get, setO, OutOK_stop, List.size_toArray, List.length_cons, List.length_nil, List.range, List.range.loop, List.getElem?_toArray, List.getElem?_cons_succ, List.getElem?_cons_zero, ↓reduceIte, Nat.reduceAdd, Nat.reduceLT, Nat.reduceEqDiff, Nat.zero_add, Bool.not_true, wrap_i64, gl0]
        refine Sat.via (fun i => i) (hz) (by intro i j; (repeat (first | omega | split))) (by repeat' (first | exact EnvVia.nil | refine EnvVia.cons (by first | trivial | decide | (simp [SV.bnd, SV.bndL]; done)) rfl ?_)) (by repeat' (first | exact HeapVia.nil | refine HeapVia.cons (by decide) (by first | trivial | (simp [Blk.bnd, SV.bnd, SV.bndL]; done) | exact bndL_mapV _ _ _ | exact LR.bnd (by rw [l2]; simp [bndE, SV.bnd, SV.bndL]) (by rw [l6]; decide)) (by first | rfl | (simp only [Blk.ren, renL_mapV]; rfl) | (rw [LR.ren (by rw [l2] <;> rfl) (by rw [l6] <;> rfl)]; rfl)) ?_)) ⟨by have := h4.hm; (try dsimp only at this); (first | done | omega), fun i hi => by have := h4.hm; (try dsimp only at this); (first | omega | (dsimp only; omega) | (rw [if_neg (by omega)]))⟩ ⟨by simp, rfl⟩
    · simp (disch := omega) only [runR_next, runR_stop, stepS, goS, exitTo, OutOK_stop, halt, isAt, atC, execA_succ, ↓reduceIte, beq_self_eq_true]
      obtain rfl : k = fs.length := by omega
      refine h4.fin _ _ _ _ _ trivial rfl ?_
      refine ⟨_, _, rfl, by decide, ?_⟩
      simp only [Option.map_none, Option.map_some, Option.toList, List.nil_append, List.cons_append, Heap.drop, Nat.reduceEqDiff, ↓reduceIte]
      refine h1.run 300 ?_
      simp (disch := omega) only [exec_succ, runR_next, runR_stop, stepS, runOp, toSR, sop, rOf, sLoadIn, sLoad, ev, Env.get, Heap.get, Heap.drop, takeN, cut, aggOf, OutOK_stop, dropL, List.size_toArray, List.length_cons, List.length_nil, List.range, List.range.loop, List.getElem?_toArray, List.getElem?_cons_succ, List.getElem?_cons_zero, ↓reduceIte, Nat.reduceAdd, Nat.reduceLT, Nat.reduceEqDiff, Nat.zero_add, gl0, Try.sz2, Try.ag2]
      refine h1.ret _ _ _ _ _ _ ⟨rfl, trivial⟩ rfl ?_
      simp only [dropL, Heap.drop, Nat.reduceEqDiff, ↓reduceIte]
      refine hκ.run 300 ?_
      simp (disch := omega) only [exec_succ, runR_next, runR_stop, stepS, runOp, toSR, sop, rOf, sExtract, ev, Env.get, setO, OutOK_stop, resV, List.getElem?_toArray, List.getElem?_cons_succ, List.getElem?_cons_zero, ↓reduceIte, Nat.reduceLT, Nat.reduceEqDiff, gl0]
      refine hκ.ret _ _ _ _ _ _ trivial rfl ?_
      exact .ret (by simp [SV.bnd, SV.bndL])
theorem busy_ok (fs : List Fr) (en v f t : Int) (hf : ∀ f ∈ fs, inFr f) (he : i64 en) (hv : i64 v) (hff : i64 f) (htt : i64 t) (hn : fs.length < 2 ^ 46) : Con Try.prog gl0 (fnv 22) [Tr fs en, I v, I f, I t] 0 [] (Ret (.tup [I (if longE fs en f t = 0 then longT fs en f t (fun p => decide (p.2 = v)) else 0), I (longE fs en f t)])) := by
  have c1 := check_ok fs en hf he hn
  have c2 := ptime_ok f
  have c3 := ptime_ok t
  refine Con.of Try.ok22 (nt := 17) (res := [.tmp 8, .tmp 9]) Try.mixed Try.func22 rfl rfl rfl rfl fun κ xc hκ => hκ.run 300 ?_
  simp (disch := omega) only [exec_succ, runR_next, runR_call, stepS, runOp, toSR, sop, rOf, rNew, sBox, isArr, sLoadIn, sLoad, sMakeFunc, ev, evs, svs, Env.get, Heap.get, takeN, cut, aggOf, cellsS, envOf, Value.cells, OutOK_call, Bool.false_eq_true, List.size_toArray, List.length_cons, List.length_nil, List.range, List.range.loop, List.getElem?_toArray, List.getElem?_cons_succ, List.getElem?_cons_zero, List.map_cons, List.map_nil, List.toList_toArray, ↓reduceIte, Nat.reduceAdd, Nat.reduceLT, Nat.reduceEqDiff, Nat.zero_add, Nat.add_one_ne_zero, reduceCtorEq, gl0, Try.sz24, Try.ag24]
  refine Does.inl hκ.hP hκ.hgl Try.ok37 (nt := 51) (res := [.tmp 8, .tmp 9]) Try.mixed Try.func37 rfl rfl rfl rfl fun κ_h1 x_h1 h1 => h1.run 300 ?_
  simp (disch := omega) only [exec_succ, runR_next, runR_call, stepS, runOp, toSR, sop, rOf, rNew, sBox, isArr, sLoadIn, sLoad, ev, evs, svs, Env.get, Heap.get, takeN, cut, aggOf, cellsS, envOf, Value.cells, OutOK_call, Bool.false_eq_true, List.size_toArray, List.length_cons, List.length_nil, List.range, List.range.loop, List.getElem?_toArray, List.getElem?_cons_succ, List.getElem?_cons_zero, List.map_cons, List.map_nil, List.toList_toArray, ↓reduceIte, Nat.reduceAdd, Nat.reduceLT, Nat.reduceEqDiff, Nat.zero_add, reduceCtorEq, gl0, Try.sz24, Try.ag24]
  by_cases q1 : rightT fs en = true
  case neg =>
    rw [if_neg q1] at c1
    have e1 : longE fs en f t = 330 := by rw [longE, if_neg q1]
    rw [e1, if_neg (by decide)] at hκ
    refine Does.ret h1.hP h1.hgl (c1) ⟨trivial, by simp [SV.bnd, SV.bndL], by first | (simp [SV.bnd, SV.bndL]; done) | assumption⟩ ?_
    refine h1.run 300 ?_
    simp (disch := omega) only [exec_succ, runR_next, runR_fork_true, runR_stop, stepS, runOp, condS, toSR, sop, rOf, sInt, sBin, ev, Env.get, setO, OutOK_stop, List.size_toArray, List.length_cons, List.length_nil, List.range, List.range.loop, List.getElem?_toArray, List.getElem?_cons_succ, List.getElem?_cons_zero, ↓reduceIte, Nat.reduceAdd, Nat.reduceLT, Nat.zero_add, Int.reduceEq, Bool.not_false, decide_false, gl0]
    refine h1.ret _ _ _ _ _ _ trivial rfl ?_
    refine hκ.run 300 ?_
    simp (disch := omega) only [exec_succ, runR_next, runR_stop, stepS, runOp, toSR, sop, rOf, sExtract, ev, Env.get, setO, OutOK_stop, dropL, resV, List.getElem?_toArray, List.getElem?_cons_succ, List.getElem?_cons_zero, ↓reduceIte, Nat.reduceLT, Nat.reduceEqDiff, gl0]
    refine hκ.ret _ _ _ _ _ _ trivial rfl ?_
    exact .ret (by simp [SV.bnd, SV.bndL])
  rw [if_pos q1] at c1
  refine Does.ret h1.hP h1.hgl (c1) ⟨trivial, by simp [SV.bnd, SV.bndL], by first | (simp [SV.bnd, SV.bndL]; done) | assumption⟩ ?_
  refine h1.run 300 ?_
  simp (disch := omega) only [exec_succ, runR_next, runR_fork_false, runR_call, stepS, runOp, condS, toSR, sop, rOf, sLoadIn, sLoad, sInt, sBin, ev, evs, Env.get, Heap.get, takeN, cut, aggOf, setO, OutOK_call, List.size_toArray, List.length_cons, List.length_nil, List.range, List.range.loop, List.getElem?_toArray, List.getElem?_cons_succ, List.getElem?_cons_zero, ↓reduceIte, Nat.reduceAdd, Nat.reduceLT, Nat.reduceEqDiff, Nat.zero_add, Bool.not_true, decide_true, gl0, Try.sz2, Try.ag2]
  refine Does.ret h1.hP h1.hgl (c2) ⟨trivial, by simp [SV.bnd, SV.bndL], by first | (simp [SV.bnd, SV.bndL]; done) | assumption⟩ ?_
  cases q2 : timeB f
  · have e1 : longE fs en f t = 2 := by rw [longE, if_pos q1, if_neg (by rw [q2]; simp)]
    rw [e1, if_neg (by decide)] at hκ
    refine h1.run 300 ?_
    simp (disch := omega) only [exec_succ, runR_next, runR_fork_true, runR_guard_tf, runR_stop, stepS, runOp, guardS, condS, toSR, sop, rOf, sPick, sLoadIn, sLoad, sBin, sUn, ev, evs, Env.get, Heap.get, takeN, cut, aggOf, setO, OutOK_stop, undefS, undef, List.size_toArray, List.length_cons, List.length_nil, List.range, List.range.loop, List.getElem?_toArray, List.getElem?_cons_succ, List.getElem?_cons_zero, Option.bind_some, ↓reduceIte, Nat.reduceAdd, Nat.reduceLT, Nat.reduceEqDiff, Nat.zero_add, Bool.not_false, and_self, gl0, Try.sz2, Try.ag2]
    refine h1.ret _ _ _ _ _ _ trivial rfl ?_
    refine hκ.run 300 ?_
    simp (disch := omega) only [exec_succ, runR_next, runR_stop, stepS, runOp, toSR, sop, rOf, sExtract, ev, Env.get, setO, OutOK_stop, dropL, resV, List.getElem?_toArray, List.getElem?_cons_succ, List.getElem?_cons_zero, ↓reduceIte, Nat.reduceLT, Nat.reduceEqDiff, gl0]
    refine hκ.ret _ _ _ _ _ _ trivial rfl ?_
    exact .ret (by simp [SV.bnd, SV.bndL])
  refine h1.run 300 ?_
  simp (disch := omega) only [exec_succ, runR_next, runR_guard_ff, runR_call, stepS, runOp, guardS, toSR, sop, rOf, sLoadIn, sLoad, sUn, ev, evs, Env.get, Heap.get, takeN, cut, aggOf, setO, OutOK_call, undefS, undef, List.getElem?_toArray, List.getElem?_cons_succ, List.getElem?_cons_zero, Option.bind_some, ↓reduceIte, Nat.reduceLT, Nat.reduceEqDiff, Bool.not_true, Bool.not_false, and_self, gl0, Try.sz2, Try.ag2]
  refine Does.ret h1.hP h1.hgl (c3) ⟨trivial, by simp [SV.bnd, SV.bndL], by first | (simp [SV.bnd, SV.bndL]; done) | assumption⟩ ?_
  cases q3 : timeB t
  · have e1 : longE fs en f t = 2 := by rw [longE, if_pos q1, if_neg (by rw [q3]; simp)]
    rw [e1, if_neg (by decide)] at hκ
    refine h1.run 300 ?_
    simp (disch := omega) only [exec_succ, runR_next, runR_fork_true, runR_guard_ff, runR_guard_tf, runR_stop, stepS, runOp, guardS, condS, toSR, sop, rOf, sPick, sLoadIn, sLoad, sBin, sUn, ev, Env.get, Heap.get, takeN, cut, aggOf, setO, OutOK_stop, undefS, undef, List.size_toArray, List.length_cons, List.length_nil, List.range, List.range.loop, List.getElem?_toArray, List.getElem?_cons_succ, List.getElem?_cons_zero, Option.bind_some, ↓reduceIte, Nat.reduceAdd, Nat.reduceLT, Nat.reduceEqDiff, Nat.zero_add, Bool.not_false, and_self, gl0, Try.sz2, Try.ag2]
    refine h1.ret _ _ _ _ _ _ trivial rfl ?_
    refine hκ.run 300 ?_
    simp (disch := omega) only [exec_succ, runR_next, runR_stop, stepS, runOp, toSR, sop, rOf, sExtract, ev, Env.get, setO, OutOK_stop, dropL, resV, List.getElem?_toArray, List.getElem?_cons_succ, List.getElem?_cons_zero, ↓reduceIte, Nat.reduceLT, Nat.reduceEqDiff, gl0]
    refine hκ.ret _ _ _ _ _ _ trivial rfl ?_
    exact .ret (by simp [SV.bnd, SV.bndL])
  by_cases q4 : t < f
  · have e1 : longE fs en f t = 2 := by rw [longE, if_pos q1, if_neg (fun h => by omega)]
    rw [e1, if_neg (by decide)] at hκ
    have e3 : (t < f) = True := by first | (simp only [eq_iff_iff, iff_true]; first | assumption | omega) | (simp; omega)
    refine h1.run 300 ?_
    simp (disch := omega) only [exec_succ, runR_next, runR_fork_true, runR_guard_ff, runR_stop, stepS, runOp, guardS, condS, toSR, sop, rOf, sPick, sLoadIn, sLoad, sInt, sBin, sUn, ev, Env.get, Heap.get, takeN, cut, aggOf, setO, OutOK_stop, undefS, undef, List.size_toArray, List.length_cons, List.length_nil, List.range, List.range.loop, List.getElem?_toArray, List.getElem?_cons_succ, List.getElem?_cons_zero, Option.bind_some, ↓reduceIte, Nat.reduceAdd, Nat.reduceLT, Nat.reduceEqDiff, Nat.zero_add, Bool.not_true, Bool.not_false, decide_true, and_self, gl0, Try.sz2, Try.ag2, e3]
    refine h1.ret _ _ _ _ _ _ trivial rfl ?_
    refine hκ.run 300 ?_
    simp (disch := omega) only [exec_succ, runR_next, runR_stop, stepS, runOp, toSR, sop, rOf, sExtract, ev, Env.get, setO, OutOK_stop, dropL, resV, List.getElem?_toArray, List.getElem?_cons_succ, List.getElem?_cons_zero, ↓reduceIte, Nat.reduceLT, Nat.reduceEqDiff, gl0]
    refine hκ.ret _ _ _ _ _ _ trivial rfl ?_
    exact .ret (by simp [SV.bnd, SV.bndL])
  have e1 : longE fs en f t = 0 := by rw [longE, if_pos q1, if_pos ⟨q2, q3, by omega⟩]
  rw [e1, if_pos rfl] at hκ
  have e3 : (t < f) = False := by first | (simp only [eq_iff_iff, iff_false]; first | assumption | omega) | (simp; omega)
  have hrt := (RT.iff fs en).1 q1
  have hlen := hrt.len
  have hen := hrt.en1
  have q2b := (timeB_iff f).1 q2
  have q3b := (timeB_iff t).1 q3
  refine h1.run 300 ?_
  simp (disch := omega) only [exec_succ, runR_next, runR_need, runR_fork_false, runR_guard_ff, runR_call, stepS, runOp, guardS, condS, toSR, sop, rOf, rNew, sPick, sAlloc, sAlloc0, sLoadIn, sLoad, sStoreIn, sStore, sInt, sBin, sUn, ev, evs, svs, Env.get, Heap.get, Heap.set, takeN, cut, over, paste, aggOf, cellsS, one, ones, setO, Value.cells, Value.oneCell', OutOK_need, OutOK_call, undefS, undef, List.size_toArray, List.length_cons, List.length_nil, List.range, List.range.loop, List.getElem?_toArray, List.getElem?_cons_succ, List.getElem?_cons_zero, List.map_cons, List.map_nil, Option.bind_some, List.toList_toArray, ↓reduceIte, Nat.reduceAdd, Nat.reduceLT, Nat.reduceEqDiff, Nat.zero_add, Bool.not_true, Bool.not_false, decide_false, true_and, and_self, forall_const, gl0, Try.sz2, Try.ag2, Try.ze2, Try.ar2, Try.sz24, Try.ag24, e3]
  refine Does.inl h1.hP h1.hgl Try.ok39 (nt := 4) (res := [.tmp 2]) Try.mixed Try.func39 rfl rfl rfl rfl fun κ_h2 x_h2 h2 => h2.run 300 ?_
  simp (disch := omega) only [exec_succ, runR_next, runR_stop, stepS, runOp, toSR, sop, rOf, rNew, sBox, isArr, sMakeFunc, ev, evs, Env.get, cellsS, envOf, OutOK_stop, Bool.false_eq_true, List.size_toArray, List.length_cons, List.length_nil, List.range, List.range.loop, List.getElem?_toArray, List.getElem?_cons_succ, List.getElem?_cons_zero, ↓reduceIte, Nat.reduceAdd, Nat.reduceLT, Nat.reduceEqDiff, Nat.zero_add, gl0]
  refine h2.ret _ _ _ _ _ _ trivial rfl ?_
  refine h1.run 300 ?_
  simp (disch := omega) only [exec_succ, runR_next, runR_stop, stepS, setO, OutOK_stop, dropL, resV, gl0]
  refine h1.rangeL rfl fun L l1 l2 l3 l4 l5 l6 => ?_
  refine Does.inlc rfl h1.hgl Try.ok48 (nt := 35) (res := []) Try.mixed Try.func48 rfl rfl rfl rfl fun κ_h4 x_h4 h4 => h4.run 300 ?_
  simp (disch := omega) only [sBuiltin, exec_succ, runR_next, runR_stop, stepS, runOp, toSR, sop, rOf, sLoadIn, sLoad, sFieldAddr, sLen, ev, Env.get, Heap.get, takeN, cut, aggOf, envOf, OutOK_stop, List.size_toArray, List.length_cons, List.length_nil, List.length_map, List.range, List.range.loop, List.getElem?_toArray, List.getElem?_cons_succ, List.getElem?_cons_zero, List.cons_append, List.nil_append, ↓reduceIte, Nat.reduceAdd, Nat.reduceLT, Nat.reduceEqDiff, Nat.zero_add, Nat.add_zero, Nat.add_one_ne_zero, reduceCtorEq, gl0, Try.underlying22, Try.sz22, Try.ag22, Try.fd24f0]
  refine Sat.less (Sat.loop (γ := Nat) (fun k => ([(9, I k), (8, I fs.length), (7, Fs fs), (0, .yl 9), (1, .ptr 7 0 0 0)], [(9, L.blk .ready none), (8, .obj (.deferred (some []))), (7, .own [Fs fs, I en] 24), (6, .own [I (longK fs en f t (fun p => decide (p.2 = v)) k)] 2), (5, .own [.fn (.func 40) [] [.ptr 1 0 0 0]] 71), (4, .own [I t] 2), (3, .own [I f] 2), (1, .own [I v] 3)], 10)) (fun k => fs.length - k) (fun k => k ≤ fs.length) ?round 0 (Nat.zero_le _)) (by repeat' (first | exact EnvSub.nil _ | exact HeapSub.nil _ | refine EnvSub.cons rfl ?_ | refine HeapSub.cons rfl ?_ | (refine EnvSub.cons (by simp [Env.get]; done) ?_) | (refine HeapSub.cons (by simp [Heap.get]; done) ?_))) (by repeat' (first | exact EnvSub.nil _ | exact HeapSub.nil _ | refine EnvSub.cons rfl ?_ | refine HeapSub.cons rfl ?_ | (refine EnvSub.cons (by simp [Env.get]; done) ?_) | (refine HeapSub.cons (by simp [Heap.get]; done) ?_)))
  case round =>
    intro k hk ih
    dsimp only at ih ⊢
    refine h4.runA 4 300 ?_
    simp (disch := omega) only [runR_next, stepS, runOp, condS, toSR, sop, sInt, sBin, ev, Env.get, halt, isAt, atC, execA_succ, List.size_toArray, List.length_cons, List.length_nil, List.range, List.range.loop, List.getElem?_toArray, List.getElem?_cons_zero, ↓reduceIte, Nat.reduceLT, Nat.reduceEqDiff, Nat.zero_add, Nat.reduceBEq, gl0]
    refine OutOK_fork (fun h => ?_) (fun h => ?_) <;> try simp only [Bool.not_true, Bool.not_false, decide_eq_true_eq, decide_eq_false_iff_not, Bool.not_eq_true', Bool.not_eq_false', Bool.and_eq_true, Bool.or_eq_false_iff, Bool.or_eq_true, Bool.and_eq_false_iff] at h
    · have hm := getD_mem (show k < fs.length by omega)
      obtain ⟨v1, v2, v3⟩ := hf _ hm
      have hz := ih (k + 1) (by omega) (by omega)
      have hu : untilT fs en k = if k + 1 < fs.length then (fs.getD (k + 1) default).1 else en := rfl
      have hub := hrt.until (k := k) (by omega)
      have hab := hrt.at0 k (by omega)
      have hlb := longK_bd hrt f t (fun p => decide (p.2 = v)) k hk
      have c4 := bhas_ok (pT fs k) v v2 hv v3
      rw [longK] at hz
      generalize longK fs en f t (fun p => decide (p.2 = v)) k = n at hz hlb ⊢
      simp (disch := omega) only [runR_next, runR_need, stepS, runOp, toSR, sop, rOf, rNew, sAlloc, sAlloc0, sLoadIn, sLoad, sStoreIn, sStore, sFieldAddr, sIndexAddr, elemT, obind, ev, svs, Env.get, Heap.get, Heap.set, takeN, cut, over, paste, aggOf, cellsS, one, ones, Value.oneCell', OutOK_need, OutOK_stop, undefS, undef, halt, isAt, atC, execA_succ, List.size_toArray, List.length_cons, List.length_nil, List.length_map, List.range, List.range.loop, List.getElem?_toArray, List.getElem?_cons_succ, List.getElem?_cons_zero, List.map_cons, List.map_nil, ↓reduceIte, Nat.reduceAdd, Nat.reduceLT, Nat.reduceEqDiff, Nat.zero_add, Nat.add_one_ne_zero, Nat.reduceBEq, Int.toNat_natCast, beq_self_eq_true, true_and, and_self, forall_const, reduceCtorEq, getD_map, Try.sz2, Try.ag2, Try.underlying22, Try.fd24f1, Try.sz58, Try.ag58, Try.ze58, Try.ar58, eF, eF]
      (repeat (refine ⟨by first | omega | (refine ⟨?_, ?_⟩ <;> omega) | trivial | (simp; done) | decide +kernel, fun _ => ?_⟩))
      apply Sat.join (α := Unit) (nx := 11) (dfs := []) (fun _ => True) (fun _ => ([(5, I (untilT fs en k)), (4, .ptr 10 0 0 0), (9, I k), (8, I fs.length), (7, Fs fs), (0, .yl 9), (1, .ptr 7 0 0 0)], [(10, .own [I (aT fs k), Ps (pT fs k)] 58), (9, L.blk .ready none), (8, .obj (.deferred (some []))), (7, .own [Fs fs, I en] 24), (6, .own [I n] 2), (5, .own [.fn (.func 40) [] [.ptr 1 0 0 0]] 71), (4, .own [I t] 2), (3, .own [I f] 2), (1, .own [I v] 3)]))
      · intro hj
        have hj := hj () trivial
        refine h4.runA 6 300 ?_
        simp (disch := omega) only [sBuiltin, runR_next, stepS, runOp, condS, toSR, sop, rOf, sLoadIn, sLoad, sInt, sBin, sFieldAddr, sLen, ev, Env.get, Heap.get, takeN, cut, aggOf, halt, isAt, atC, execA_succ, List.size_toArray, List.length_cons, List.length_nil, List.length_map, List.range, List.range.loop, List.getElem?_toArray, List.getElem?_cons_succ, List.getElem?_cons_zero, ↓reduceIte, Nat.reduceAdd, Nat.reduceLT, Nat.reduceEqDiff, Nat.zero_add, Nat.add_zero, Nat.add_one_ne_zero, Nat.reduceBEq, reduceCtorEq, wrap_i64, gl0, Try.underlying22, Try.sz22, Try.ag22, Try.fd24f0]
        refine OutOK_fork (fun h => ?_) (fun h => ?_) <;> try simp only [Bool.not_true, Bool.not_false, decide_eq_true_eq, decide_eq_false_iff_not, Bool.not_eq_true', Bool.not_eq_false', Bool.and_eq_true, Bool.or_eq_false_iff, Bool.or_eq_true, Bool.and_eq_false_iff] at h
        · rw [show untilT fs en k = (fs.getD (k + 1) default).1 by rw [hu, if_pos (by omega)]] at hj
          have hkk : ((k : Int) + 1).toNat = k + 1 := by omega
          simp (disch := omega) only [runR_next, runR_need, stepS, runOp, toSR, sop, rOf, sLoadIn, sLoad, sInt, sBin, sFieldAddr, sIndexAddr, elemT, obind, ev, Env.get, Heap.get, takeN, cut, aggOf, OutOK_need, OutOK_stop, halt, isAt, atC, execA_succ, List.size_toArray, List.length_cons, List.length_nil, List.length_map, List.range, List.range.loop, List.getElem?_toArray, List.getElem?_cons_succ, List.getElem?_cons_zero, ↓reduceIte, Nat.reduceAdd, Nat.reduceLT, Nat.reduceEqDiff, Nat.zero_add, Nat.add_zero, Nat.add_one_ne_zero, Nat.reduceBEq, beq_self_eq_true, reduceCtorEq, getD_map, wrap_i64, Try.sz2, Try.ag2, Try.underlying22, Try.sz22, Try.ag22, Try.fd24f0, Try.sz58, Try.fd58f0, eF, hkk, eF]
          (repeat (refine ⟨by first | omega | (refine ⟨?_, ?_⟩ <;> omega) | trivial | (simp; done) | decide +kernel, fun _ => ?_⟩))
          exact hj.less (by repeat' (first | exact EnvSub.nil _ | exact HeapSub.nil _ | refine EnvSub.cons rfl ?_ | refine HeapSub.cons rfl ?_ | (refine EnvSub.cons (by simp [Env.get]; done) ?_) | (refine HeapSub.cons (by simp [Heap.get]; done) ?_))) (by repeat' (first | exact EnvSub.nil _ | exact HeapSub.nil _ | refine EnvSub.cons rfl ?_ | refine HeapSub.cons rfl ?_ | (refine EnvSub.cons (by simp [Env.get]; done) ?_) | (refine HeapSub.cons (by simp [Heap.get]; done) ?_)))
        · rw [show untilT fs en k = en by rw [hu, if_neg (by omega)]] at hj
          simp (disch := omega) only [runR_next, stepS, OutOK_stop, halt, isAt, atC, execA_succ, beq_self_eq_true]
          exact hj.less (by repeat' (first | exact EnvSub.nil _ | exact HeapSub.nil _ | refine EnvSub.cons rfl ?_ | refine HeapSub.cons rfl ?_ | (refine EnvSub.cons (by simp [Env.get]; done) ?_) | (refine HeapSub.cons (by simp [Heap.get]; done) ?_))) (by repeat' (first | exact EnvSub.nil _ | exact HeapSub.nil _ | refine EnvSub.cons rfl ?_ | refine HeapSub.cons rfl ?_ | (refine EnvSub.cons (by simp [Env.get]; done) ?_) | (refine HeapSub.cons (by simp [Heap.get]; done) ?_)))
      intro _ _
      generalize untilT fs en k = u at hz hub ⊢
      generalize aT fs k = a at v1 hz hub hab ⊢
      generalize pT fs k = l at v2 v3 hz c4 ⊢
      refine h4.run 300 ?_
      simp (disch := omega) only [exec_succ, runR_next, runR_call, stepS, runOp, toSR, sop, rOf, sLoadIn, sLoad, ev, evs, Env.get, Heap.get, takeN, cut, aggOf, OutOK_call, List.size_toArray, List.length_cons, List.length_nil, List.range, List.range.loop, List.getElem?_toArray, List.getElem?_cons_succ, List.getElem?_cons_zero, ↓reduceIte, Nat.reduceAdd, Nat.reduceLT, Nat.reduceEqDiff, Nat.zero_add, Nat.add_one_ne_zero, gl0, Try.sz58, Try.ag58]
      refine Does.roundL h4.hP h4.hgl Try.mixed (L := L) rfl l1 l2 l3 l4 l5 rfl rfl fun κ_h5 x_h5 h5 => ?_
      simp only [bindP]
      refine h5.run 300 ?_
      simp (disch := omega) only [exec_succ, runR_next, runR_need, runR_stop, stepS, runOp, toSR, sop, rOf, rNew, sAlloc, sAlloc0, sStoreIn, sStore, ev, svs, Env.get, Heap.get, Heap.set, over, paste, cellsS, one, ones, Value.oneCell', OutOK_need, OutOK_stop, undefS, undef, List.size_toArray, List.length_cons, List.length_nil, List.range, List.range.loop, List.getElem?_toArray, List.getElem?_cons_succ, List.getElem?_cons_zero, List.map_cons, List.map_nil, ↓reduceIte, Nat.reduceAdd, Nat.reduceLT, Nat.reduceEqDiff, Nat.zero_add, true_and, and_self, forall_const, gl0, Try.sz58, Try.ze58, Try.ar58]
      refine h5.beg rfl ?_
      simp only [Heap.set, Nat.reduceEqDiff, ↓reduceIte]
      refine h5.run 300 ?_
      simp (disch := omega) only [exec_succ, runR_next, runR_call, stepS, runOp, toSR, sop, rOf, sLoadIn, sLoad, sFieldAddr, ev, evs, Env.get, Heap.get, takeN, cut, aggOf, OutOK_call, List.size_toArray, List.length_cons, List.length_nil, List.range, List.range.loop, List.getElem?_toArray, List.getElem?_cons_succ, List.getElem?_cons_zero, ↓reduceIte, Nat.reduceAdd, Nat.reduceLT, Nat.reduceEqDiff, Nat.zero_add, Nat.add_one_ne_zero, gl0, Try.sz25, Try.ag25, Try.fd58f1, Try.sz71, Try.ag71]
      refine Does.keep h5.hP h5.hgl 1 [Ps l, .fn (.func 40) [] [.ptr 0 0 0 0]] c4 rfl ⟨trivial, by simp [SV.bnd, SV.bndL], by first | (simp [SV.bnd, SV.bndL]; done) | assumption⟩ ⟨Blk.still_own ⟨trivial, trivial⟩, ⟨trivial, trivial⟩, Blk.still_own ⟨trivial, trivial⟩⟩ rfl (by first | omega | (dsimp only; omega)) ?_
      cases hq : (l.any fun p => decide (p.2 = v))
      · rw [hq, if_neg (by decide), Int.add_zero] at hz
        refine h5.run 300 ?_
        simp (disch := omega) only [exec_succ, runR_next, runR_fork_false, runR_stop, stepS, condS, ev, Env.get, setO, OutOK_stop, without, List.mem_singleton, ↓reduceIte, Nat.reduceEqDiff, gl0]
        refine h5.fin rfl ?_
        simp only [Heap.set, Nat.reduceEqDiff, ↓reduceIte]
        refine h4.run 300 ?_
        simp (disch := omega) only [exec_succ, runR_next, runR_fork_false, runR_stop, stepS, runOp, condS, toSR, sop, rOf, sInt, sBin, sUn, ev, Env.get, setO, OutOK_stop, List.size_toArray, List.length_cons, List.length_nil, List.range, List.range.loop, List.getElem?_toArray, List.getElem?_cons_succ, List.getElem?_cons_zero, ↓reduceIte, Nat.reduceAdd, Nat.reduceLT, Nat.reduceEqDiff, Nat.zero_add, Bool.not_true, wrap_i64, gl0]
        refine Sat.via (fun i => i) (hz) (by intro i j; (repeat (first | omega | split))) (by repeat' (first | exact EnvVia.nil | refine EnvVia.cons (by first | trivial | decide | (simp [SV.bnd, SV.bndL]; done)) rfl ?_)) (by repeat' (first | exact HeapVia.nil | refine HeapVia.cons (by decide) (by first | trivial | (simp [Blk.bnd, SV.bnd, SV.bndL]; done) | exact bndL_mapV _ _ _ | exact LR.bnd (by rw [l2]; simp [bndE, SV.bnd, SV.bndL]) (by rw [l6]; decide)) (by first | rfl | (simp only [Blk.ren, renL_mapV]; rfl) | (rw [LR.ren (by rw [l2] <;> rfl) (by rw [l6] <;> rfl)]; rfl)) ?_)) ⟨by have := h4.hm; (try dsimp only at this); (first | done | omega), fun i hi => by have := h4.hm; (try dsimp only at this); (first | omega | (dsimp only; omega) | (rw [if_neg (by omega)]))⟩ ⟨by simp, rfl⟩
      · rw [hq, if_pos rfl] at hz
        have ec : n + max (min u t - max a f) 0 = n + cutI a u f t := by unfold cutI; split <;> omega
        refine h5.run 300 ?_
        simp (disch := omega) only [sBuiltin, sMinMax, exec_succ, runR_next, runR_need, runR_fork_true, runR_stop, stepS, runOp, condS, toSR, sop, rOf, sLoadIn, sLoad, sStoreIn, sStore, sInt, sBin, sFieldAddr, ev, svs, Env.get, Heap.get, Heap.set, takeN, cut, over, paste, aggOf, cellsS, one, ones, setO, Value.cells, Value.oneCell', OutOK_need, OutOK_stop, undefS, undef, without, List.mem_singleton, Bool.false_eq_true, List.size_toArray, List.length_cons, List.length_nil, List.range, List.range.loop, List.getElem?_toArray, List.getElem?_cons_succ, List.getElem?_cons_zero, List.map_cons, List.map_nil, List.toList_toArray, ↓reduceIte, Nat.reduceAdd, Nat.reduceLT, Nat.reduceEqDiff, Nat.zero_add, Nat.add_zero, Nat.add_one_ne_zero, true_and, and_self, forall_const, wrap_i64, gl0, Try.sz2, Try.ag2, Try.fd58f0]
        rw [ec]
        refine h5.fin rfl ?_
        simp only [Heap.set, Nat.reduceEqDiff, ↓reduceIte]
        refine h4.run 300 ?_
        simp (disch := omega) only [exec_succ, runR_next, runR_fork_false, runR_stop, stepS, runOp, condS, toSR, sop, rOf, sInt, sBin, sUn, ev, Env.get, setO, OutOK_stop, List.size_toArray, List.length_cons, List.length_nil, List.range, List.range.loop, List.getElem?_toArray, List.getElem?_cons_succ, List.getElem?_cons_zero, ↓reduceIte, Nat.reduceAdd, Nat.reduceLT, Nat.reduceEqDiff, Nat.zero_add, Bool.not_true, wrap_i64, gl0]
        refine Sat.via (fun i => i) (hz) (by intro i j; (repeat (first | omega | split))) (by repeat' (first | exact EnvVia.nil | refine EnvVia.cons (by first | trivial | decide | (simp [SV.bnd, SV.bndL]; done)) rfl ?_)) (by repeat' (first | exact HeapVia.nil | refine HeapVia.cons (by decide) (by first | trivial | (simp [Blk.bnd, SV.bnd, SV.bndL]; done) | exact bndL_mapV _ _ _ | exact LR.bnd (by rw [l2]; simp [bndE, SV.bnd, SV.bndL]) (by rw [l6]; decide)) (by first | rfl | (simp only [Blk.ren, renL_mapV]; rfl) | (rw [LR.ren (by rw [l2] <;> rfl) (by rw [l6] <;> rfl)]; rfl)) ?_)) ⟨by have := h4.hm; (try dsimp only at this); (first | done | omega), fun i hi => by have := h4.hm; (try dsimp only at this); (first | omega | (dsimp only; omega) | (rw [if_neg (by omega)]))⟩ ⟨by simp, rfl⟩
    · simp (disch := omega) only [runR_next, runR_stop, stepS, goS, exitTo, OutOK_stop, halt, isAt, atC, execA_succ, ↓reduceIte, beq_self_eq_true]
      obtain rfl : k = fs.length := by omega
      refine h4.fin _ _ _ _ _ trivial rfl ?_
      refine ⟨_, _, rfl, by decide, ?_⟩
      simp only [Option.map_none, Option.map_some, Option.toList, List.nil_append, List.cons_append, Heap.drop, Nat.reduceEqDiff, ↓reduceIte]
      refine h1.run 300 ?_
      simp (disch := omega) only [exec_succ, runR_next, runR_stop, stepS, runOp, toSR, sop, rOf, sLoadIn, sLoad, ev, Env.get, Heap.get, Heap.drop, takeN, cut, aggOf, OutOK_stop, dropL, List.size_toArray, List.length_cons, List.length_nil, List.range, List.range.loop, List.getElem?_toArray, List.getElem?_cons_succ, List.getElem?_cons_zero, ↓reduceIte, Nat.reduceAdd, Nat.reduceLT, Nat.reduceEqDiff, Nat.zero_add, gl0, Try.sz2, Try.ag2]
      refine h1.ret _ _ _ _ _ _ ⟨rfl, trivial⟩ rfl ?_
      simp only [dropL, Heap.drop, Nat.reduceEqDiff, ↓reduceIte]
      refine hκ.run 300 ?_
      simp (disch := omega) only [exec_succ, runR_next, runR_stop, stepS, runOp, toSR, sop, rOf, sExtract, ev, Env.get, setO, OutOK_stop, resV, List.getElem?_toArray, List.getElem?_cons_succ, List.getElem?_cons_zero, ↓reduceIte, Nat.reduceLT, Nat.reduceEqDiff, gl0]
      refine hκ.ret _ _ _ _ _ _ trivial rfl ?_
      exact .ret (by simp [SV.bnd, SV.bndL])
end Go.Proofs.Ytcpanpkhdcifoaa
